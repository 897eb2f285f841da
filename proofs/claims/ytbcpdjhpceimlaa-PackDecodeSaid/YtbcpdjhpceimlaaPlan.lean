/-
  A region whose order is open, run in ONE order (the plan): what is moved past each other is what commutes.
-/
import Derived.Orders
import Derived.Tactics
namespace Go.Proofs.Ytbcpdjhpceimlaa
open Go

/-- How an operation of a plan is shown to run: in whatever world, without turning it ('none', free); in this world, without turning it ('some none', held: what it reads must still read so behind a later operation that turns the world, where that is asked); or by its own wp ('some (some re)'; 're': what is held must be shown again behind it). -/
abbrev Cls := Option (Option Bool)

/-- What is held reads as it did. -/
def heldAll (P : Program) : List (Sem Next × Value) → World → Prop
  | [], _ => True
  | (s, v) :: t, w => s.run P w = .ok (.value v) w ∧ heldAll P t w

theorem heldAll_iff {P : Program} {h : List (Sem Next × Value)} {w : World} : heldAll P h w ↔ ∀ x ∈ h, x.1.run P w = .ok (.value x.2) w := by
  induction h with
  | nil => simp [heldAll]
  | cons x t ih => obtain ⟨s, v⟩ := x; simp [heldAll, ih]

def noWay : Exit → Act → World → Prop := fun _ _ _ => False

/-- One operation of a plan. -/
def stepPlan (P : Program) (ops : Array Oper) (x : Nat × Cls) (K : List (Sem Next × Value) → Act → World → Prop) (h : List (Sem Next × Value)) (a : Act) (w : World) : Prop :=
  match ops[x.1]? with
  | none => False
  | some o =>
    if Region.wanted o (yielded ops a.tmps) = true then
      match x.2 with
      | none => ∃ v, (∀ w', (execOp a.eval o).run P w' = .ok (.value v) w') ∧ K h (a.put o.dst v) w
      | some none => ∃ v, (execOp a.eval o).run P w = .ok (.value v) w ∧ K ((execOp a.eval o, v) :: h) (a.put o.dst v) w
      | some (some true) => o.wp P a w (fun a' w' => heldAll P h w' ∧ K h a' w') noWay
      | some (some false) => o.wp P a w (fun a' w' => K [] a' w') noWay
    else K h (a.put o.dst undef) w

def wpPlan (P : Program) (ops : Array Oper) (Q : Act → World → Prop) : List (Nat × Cls) → List (Sem Next × Value) → Act → World → Prop
  | [], _, a, w => Q a w
  | x :: rest, h, a, w => stepPlan P ops x (wpPlan P ops Q rest) h a w

section
variable {P : Program} {ops : Array Oper}

/-- May p, which stands ahead of q in the plan, be carried out behind q? -/
def okc : Cls → Cls → Bool
  | none, _ => true
  | some none, none => true
  | some none, some none => true
  | some none, some (some re) => re
  | some (some _), none => true
  | some (some _), some _ => false

def pairOk (ops : Array Oper) (b : Array Nat) (p q : Nat × Cls) : Bool :=
  (b.getD q.1 0).testBit p.1 ||
  (okc p.2 q.2 && match ops[p.1]?, ops[q.1]? with
    | some op, some oq => op.apart ops oq && oq.apart ops op
    | _, _ => false)

def pairsOk (ops : Array Oper) (b : Array Nat) : List (Nat × Cls) → Bool
  | [] => true
  | x :: rest => rest.all (pairOk ops b x) && pairsOk ops b rest

def topoOk (ops : Array Oper) : List (Nat × Cls) → List Nat → Bool
  | [], _ => true
  | x :: rest, done =>
    (match ops[x.1]? with
     | some o => o.after.all fun e => !Region.binds .any e || done.contains e.on
     | none => false) && !done.contains x.1 && topoOk ops rest (x.1 :: done)

def planB (ops : Array Oper) (pl : List (Nat × Cls)) : Bool :=
  Region.noSelect ops && pairsOk ops (Region.before ops) pl && topoOk ops pl [] && decide (pl.length = ops.size) &&
  (List.range ops.size).all fun i => pl.any fun x => x.1 == i

theorem stepPlan_mono {x : Nat × Cls} {K K' : List (Sem Next × Value) → Act → World → Prop} (hk : ∀ h a w, K h a w → K' h a w) {h : List (Sem Next × Value)} {a : Act} {w : World}
    (H : stepPlan P ops x K h a w) : stepPlan P ops x K' h a w := by
  unfold stepPlan at *
  split
  · simp_all
  · rename_i o ho
    simp only [ho] at H
    split
    · rename_i hw
      rw [if_pos hw] at H
      split
      · rename_i hc; simp only [hc] at H; obtain ⟨v, h1, h2⟩ := H; exact ⟨v, h1, hk _ _ _ h2⟩
      · rename_i hc; simp only [hc] at H; obtain ⟨v, h1, h2⟩ := H; exact ⟨v, h1, hk _ _ _ h2⟩
      · rename_i hc; simp only [hc] at H; exact Oper.wp_mono (fun a w q => ⟨q.1, hk _ _ _ q.2⟩) H
      · rename_i hc; simp only [hc] at H; exact Oper.wp_mono (fun a w q => hk _ _ _ q) H
    · rename_i hw
      rw [if_neg hw] at H
      exact hk _ _ _ H

/-- Fewer things held: less to show. -/
theorem wpPlan_fewer {Q : Act → World → Prop} : ∀ (pl : List (Nat × Cls)) (h h' : List (Sem Next × Value)) (a : Act) (w : World), (∀ x ∈ h', x ∈ h) →
    wpPlan P ops Q pl h a w → wpPlan P ops Q pl h' a w
  | [], _, _, _, _, _, H => H
  | x :: rest, h, h', a, w, hs, H => by
    unfold wpPlan stepPlan at *
    split
    · simp_all
    · rename_i o ho
      simp only [ho] at H
      split
      · rename_i hw
        rw [if_pos hw] at H
        split
        · rename_i hc; simp only [hc] at H; obtain ⟨v, h1, h2⟩ := H; exact ⟨v, h1, wpPlan_fewer rest _ _ _ _ hs h2⟩
        · rename_i hc; simp only [hc] at H; obtain ⟨v, h1, h2⟩ := H
          refine ⟨v, h1, wpPlan_fewer rest _ _ _ _ (fun y hy => ?_) h2⟩
          rcases List.mem_cons.1 hy with rfl | hy
          · exact List.mem_cons_self
          · exact List.mem_cons_of_mem _ (hs y hy)
        · rename_i hc; simp only [hc] at H
          refine Oper.wp_mono (fun a w q => ⟨?_, wpPlan_fewer rest _ _ _ _ hs q.2⟩) H
          rw [heldAll_iff] at *
          exact fun x hx => q.1 x (hs x hx)
        · rename_i hc; simp only [hc] at H; exact H
      · rename_i hw
        rw [if_neg hw] at H
        exact wpPlan_fewer rest _ _ _ _ hs H

/-- An operation's own wp with no way out comes to its next. -/
theorem wp_comes {o : Oper} {a : Act} {w : World} {K : Act → World → Prop} (H : o.wp P a w K noWay) : ∃ a' w' , K a' w' ∧
    ((∃ u, a' = a.put o.dst u) ∨ ∃ d u, a' = ({ a with defers := d :: a.defers } : Act).put o.dst u) := by
  unfold Oper.wp at H
  generalize (execOp a.eval o).run P w = r at H
  cases r with
  | ok n w' =>
    cases n <;> simp only [Oper.upon] at H
    case value v => exact ⟨_, _, H, .inl ⟨_, rfl⟩⟩
    case skip => exact ⟨_, _, H, .inl ⟨_, rfl⟩⟩
    case defer d => exact ⟨_, _, H, .inr ⟨_, _, rfl⟩⟩
    case enter f args =>
      obtain ⟨e, w'', fr, hR, _⟩ := H []
      cases e with
      | returned v => exact ⟨_, _, hR, .inl ⟨_, rfl⟩⟩
      | panicked c => exact hR.elim
      | outgrown => obtain ⟨_, _, h⟩ := hR; exact h.elim
    case row row args =>
      obtain ⟨v, w'', hR, _⟩ := H default []
      exact ⟨_, _, hR, .inl ⟨_, rfl⟩⟩
  | halt x w' => cases x <;> simp only [Oper.upon, noWay] at H

theorem put_defers_comm (a : Act) (x y : Option Tmp) (v u : Value) (d : Deferred) (h : ∀ t, x = some t → y ≠ some t) :
    (({ a with defers := d :: a.defers } : Act).put y u).put x v = ({ a.put x v with defers := d :: (a.put x v).defers } : Act).put y u := by
  rw [Act.put_defers, Act.put_comm]
  intro t ht
  exact fun e => h t e ht

/-- The wp of an operation in an act in which another slot has been written. -/
theorem wp_put {o : Oper} {a : Act} {w : World} {K K' : Act → World → Prop} {dst : Option Tmp} {v : Value} (hs : ∀ cs b, o.op ≠ .select cs b)
    (h1 : ∀ d, dst = some d → d ∉ o.looksAt ops) (h2 : ∀ d, dst = some d → o.dst ≠ some d)
    (hk : ∀ a' w', ((∃ u, a' = a.put o.dst u) ∨ ∃ d u, a' = ({ a with defers := d :: a.defers } : Act).put o.dst u) → K (a'.put dst v) w' → K' a' w')
    (H : o.wp P (a.put dst v) w K noWay) : o.wp P a w K' noWay := by
  unfold Oper.wp at *
  rw [execOp_put o hs a dst v h1] at H
  generalize (execOp a.eval o).run P w = r at *
  have hd : ∀ u, ((a.put dst v).put o.dst u) = (a.put o.dst u).put dst v := fun u => Act.put_comm a v u h2
  cases r with
  | ok n w' =>
    cases n <;> simp only [Oper.upon] at H ⊢
    case value u => exact hk _ _ (.inl ⟨_, rfl⟩) (by rw [← hd]; exact H)
    case skip => exact hk _ _ (.inl ⟨_, rfl⟩) (by rw [← hd]; exact H)
    case defer d =>
      refine hk _ _ (.inr ⟨_, _, rfl⟩) ?_
      rw [put_defers_comm a dst o.dst v undef d h2]
      exact H
    case enter f args =>
      refine Calls.mono H fun e w'' he => ?_
      cases e with
      | returned u => exact hk _ _ (.inl ⟨_, rfl⟩) (by rw [← hd]; exact he)
      | panicked c => exact he.elim
      | outgrown => exact he
    case row row args => exact Rows.mono H fun u w'' he => hk _ _ (.inl ⟨_, rfl⟩) (by rw [← hd]; exact he)
  | halt x w' => cases x <;> simp only [Oper.upon, noWay] at H ⊢

/-- The same, the other way: from the act as it was to the act in which the slot is written. -/
theorem wp_unput {o : Oper} {a : Act} {w : World} {K K' : Act → World → Prop} {dst : Option Tmp} {v : Value} (hs : ∀ cs b, o.op ≠ .select cs b)
    (h1 : ∀ d, dst = some d → d ∉ o.looksAt ops) (h2 : ∀ d, dst = some d → o.dst ≠ some d)
    (hk : ∀ a' w', ((∃ u, a' = a.put o.dst u) ∨ ∃ d u, a' = ({ a with defers := d :: a.defers } : Act).put o.dst u) → K a' w' → K' (a'.put dst v) w')
    (H : o.wp P a w K noWay) : o.wp P (a.put dst v) w K' noWay := by
  unfold Oper.wp at *
  rw [execOp_put o hs a dst v h1]
  generalize (execOp a.eval o).run P w = r at *
  have hd : ∀ u, ((a.put dst v).put o.dst u) = (a.put o.dst u).put dst v := fun u => Act.put_comm a v u h2
  cases r with
  | ok n w' =>
    cases n <;> simp only [Oper.upon] at H ⊢
    case value u => rw [hd]; exact hk _ _ (.inl ⟨_, rfl⟩) H
    case skip => rw [hd]; exact hk _ _ (.inl ⟨_, rfl⟩) H
    case defer d =>
      have := hk _ _ (.inr ⟨_, _, rfl⟩) H
      rw [put_defers_comm a dst o.dst v undef d h2] at this
      exact this
    case enter f args =>
      refine Calls.mono H fun e w'' he => ?_
      cases e with
      | returned u => simp only; rw [hd]; exact hk _ _ (.inl ⟨_, rfl⟩) he
      | panicked c => exact he.elim
      | outgrown => exact he
    case row row args => exact Rows.mono H fun u w'' he => by rw [hd]; exact hk _ _ (.inl ⟨_, rfl⟩) he
  | halt x w' => cases x <;> simp only [Oper.upon, noWay] at H ⊢

theorem apart_acts {x y : Oper} (h : x.apart ops y = true) (hs : ∀ cs b, x.op ≠ .select cs b) {a a' : Act}
    (ha : (∃ u, a' = a.put y.dst u) ∨ ∃ d u, a' = ({ a with defers := d :: a.defers } : Act).put y.dst u) :
    execOp a'.eval x = execOp a.eval x ∧ Region.wanted x (yielded ops a'.tmps) = Region.wanted x (yielded ops a.tmps) := by
  obtain ⟨_, _, h3⟩ := Oper.apart_spec h
  rcases ha with ⟨u, rfl⟩ | ⟨d, u, rfl⟩
  · exact ⟨execOp_put x hs a y.dst u h3, wanted_put x a y.dst u h3⟩
  · exact ⟨execOp_put x hs { a with defers := d :: a.defers } y.dst u h3, wanted_put x { a with defers := d :: a.defers } y.dst u h3⟩

/-- TWO NEIGHBOURS OF A PLAN CHANGE PLACES. -/
theorem swap {p q : Nat × Cls} {K : List (Sem Next × Value) → Act → World → Prop} (hsel : Region.noSelect ops = true)
    (hK : ∀ h h' a w, (∀ x ∈ h', x ∈ h) → K h a w → K h' a w)
    {op oq : Oper} (hp : ops[p.1]? = some op) (hq : ops[q.1]? = some oq) (hap : op.apart ops oq = true) (haq : oq.apart ops op = true) (hc : okc p.2 q.2 = true)
    {h : List (Sem Next × Value)} {a : Act} {w : World} (H : stepPlan P ops p (stepPlan P ops q K) h a w) : stepPlan P ops q (stepPlan P ops p K) h a w := by
  have hsp := fun cs b => Region.noSelect_spec hsel p.1 op cs b hp
  have hsq := fun cs b => Region.noSelect_spec hsel q.1 oq cs b hq
  obtain ⟨a1, a2, a3⟩ := Oper.apart_spec hap
  obtain ⟨b1, b2, b3⟩ := Oper.apart_spec haq
  obtain ⟨ip, cp⟩ := p
  obtain ⟨iq, cq⟩ := q
  simp only at hp hq hc
  have eP : ∀ u, execOp (a.put oq.dst u).eval op = execOp a.eval op := fun u => execOp_put op hsp a oq.dst u b1
  have wP : ∀ u, Region.wanted op (yielded ops (a.put oq.dst u).tmps) = Region.wanted op (yielded ops a.tmps) := fun u => wanted_put op a oq.dst u b1
  have eQ : ∀ u, execOp (a.put op.dst u).eval oq = execOp a.eval oq := fun u => execOp_put oq hsq a op.dst u a1
  have wQ : ∀ u, Region.wanted oq (yielded ops (a.put op.dst u).tmps) = Region.wanted oq (yielded ops a.tmps) := fun u => wanted_put oq a op.dst u a1
  have cm : ∀ u v, ((a.put op.dst u).put oq.dst v) = (a.put oq.dst v).put op.dst u := fun u v => Act.put_comm a u v a2
  by_cases hwp : Region.wanted op (yielded ops a.tmps) = true
  case neg =>
    -- p is passed over
    simp only [stepPlan, hp, hq, hwp, if_false, Bool.false_eq_true] at H
    rw [wQ] at H
    by_cases hwq : Region.wanted oq (yielded ops a.tmps) = true
    case neg =>
      simp only [hwq, if_false, Bool.false_eq_true] at H
      simp only [stepPlan, hp, hq, hwq, wP, hwp, if_false, Bool.false_eq_true]
      rw [← cm]; exact H
    case pos =>
      simp only [hwq, if_true] at H
      simp only [stepPlan, hp, hq, hwq, if_true]
      rcases cq with _ | _ | re
      ·
        obtain ⟨v, h1, h2⟩ := H
        refine ⟨v, fun w' => by rw [← eQ undef]; exact h1 w', ?_⟩
        simp only [wP, hwp, if_false, Bool.false_eq_true]
        rw [← cm]; exact h2
      ·
        obtain ⟨v, h1, h2⟩ := H
        rw [eQ] at h1 h2
        refine ⟨v, h1, ?_⟩
        simp only [wP, hwp, if_false, Bool.false_eq_true]
        rw [← cm]; exact h2
      ·
        cases re with
        | true =>
          refine wp_put (ops := ops) hsq a1 a2 (fun a' w' ha hh => ?_) H
          refine ⟨hh.1, ?_⟩
          rw [(apart_acts hap hsp ha).2, if_neg (by simpa using hwp)]
          exact hh.2
        | false =>
          refine wp_put (ops := ops) hsq a1 a2 (fun a' w' ha hh => ?_) H
          rw [(apart_acts hap hsp ha).2, if_neg (by simpa using hwp)]
          exact hh
  case pos =>
    simp only [stepPlan, hp, hwp, if_true] at H
    by_cases hwq : Region.wanted oq (yielded ops a.tmps) = true
    case neg =>
      -- q is passed over
      simp only [stepPlan, hp, hq, hwq, wP, hwp, if_false, if_true, Bool.false_eq_true]
      rcases cp with _ | _ | re
      ·
        obtain ⟨v, h1, h2⟩ := H
        simp only [hq, wQ, hwq, if_false, Bool.false_eq_true] at h2
        exact ⟨v, fun w' => by rw [eP]; exact h1 w', by rw [← cm]; exact h2⟩
      ·
        obtain ⟨v, h1, h2⟩ := H
        simp only [hq, wQ, hwq, if_false, Bool.false_eq_true] at h2
        exact ⟨v, by rw [eP]; exact h1, by rw [← cm, eP]; exact h2⟩
      ·
        have go : ∀ {K1 K2 : Act → World → Prop}, (∀ a' w', ((∃ u, a' = a.put op.dst u) ∨ ∃ d u, a' = ({ a with defers := d :: a.defers } : Act).put op.dst u) → K1 a' w' → K2 (a'.put oq.dst undef) w') →
            op.wp P a w K1 noWay → op.wp P (a.put oq.dst undef) w K2 noWay := fun hk => wp_unput (ops := ops) hsp b1 b2 hk
        cases re with
        | true =>
          refine go (fun a' w' ha hh => ⟨hh.1, ?_⟩) H
          have := hh.2
          simp only [hq] at this
          rw [(apart_acts haq hsq ha).2] at this
          simpa only [hwq, if_false, Bool.false_eq_true] using this
        | false =>
          refine go (fun a' w' ha hh => ?_) H
          have := hh
          simp only [hq] at this
          rw [(apart_acts haq hsq ha).2] at this
          have h3 : K [] (a'.put oq.dst undef) w' := by simpa only [hwq, if_false, Bool.false_eq_true] using this
          exact h3
    case pos =>
      simp only [stepPlan, hq, hwq, if_true]
      rcases cp with _ | _ | re
      ·
        obtain ⟨v, h1, h2⟩ := H
        simp only [hq, wQ, hwq, if_true] at h2
        rcases cq with _ | _ | re
        ·
          obtain ⟨u, h3, h4⟩ := h2
          refine ⟨u, fun w' => by rw [← eQ v]; exact h3 w', ?_⟩
          simp only [hp, wP, hwp, if_true]
          exact ⟨v, fun w' => by rw [eP]; exact h1 w', by rw [← cm]; exact h4⟩
        ·
          obtain ⟨u, h3, h4⟩ := h2
          rw [eQ] at h3 h4
          refine ⟨u, h3, ?_⟩
          simp only [hp, wP, hwp, if_true]
          exact ⟨v, fun w' => by rw [eP]; exact h1 w', by rw [← cm]; exact h4⟩
        ·
          cases re with
          | true =>
            refine wp_put (ops := ops) hsq a1 a2 (fun a' w' ha hh => ⟨hh.1, ?_⟩) h2
            rw [hp]; simp only
            rw [(apart_acts hap hsp ha).2, if_pos hwp]
            exact ⟨v, fun w' => by rw [(apart_acts hap hsp ha).1]; exact h1 w', hh.2⟩
          | false =>
            refine wp_put (ops := ops) hsq a1 a2 (fun a' w' ha hh => ?_) h2
            rw [hp]; simp only
            rw [(apart_acts hap hsp ha).2, if_pos hwp]
            exact ⟨v, fun w' => by rw [(apart_acts hap hsp ha).1]; exact h1 w', hh⟩
      ·
        obtain ⟨v, h1, h2⟩ := H
        simp only [hq, wQ, hwq, if_true] at h2
        rcases cq with _ | _ | re
        ·
          obtain ⟨u, h3, h4⟩ := h2
          refine ⟨u, fun w' => by rw [← eQ v]; exact h3 w', ?_⟩
          simp only [hp, wP, hwp, if_true]
          exact ⟨v, by rw [eP]; exact h1, by rw [← cm, eP]; exact h4⟩
        ·
          obtain ⟨u, h3, h4⟩ := h2
          rw [eQ] at h3 h4
          refine ⟨u, h3, ?_⟩
          simp only [hp, wP, hwp, if_true]
          refine ⟨v, by rw [eP]; exact h1, ?_⟩
          rw [← cm, eP]
          refine hK _ _ _ _ (fun x hx => ?_) h4
          simp only [List.mem_cons] at hx ⊢
          rcases hx with rfl | rfl | hx
          · exact .inr (.inl rfl)
          · exact .inl rfl
          · exact .inr (.inr hx)
        ·
          cases re with
          | true =>
            refine wp_put (ops := ops) hsq a1 a2 (fun a' w' ha hh => ⟨hh.1.2, ?_⟩) h2
            rw [hp]; simp only
            rw [(apart_acts hap hsp ha).2, if_pos hwp]
            refine ⟨v, by rw [(apart_acts hap hsp ha).1]; exact hh.1.1, ?_⟩
            rw [(apart_acts hap hsp ha).1]
            exact hh.2
          | false => simp [okc] at hc
      ·
        rcases cq with _ | _ | re
        ·
          cases re with
          | true =>
            obtain ⟨a', w', hn, ha⟩ := wp_comes H
            have hn2 := hn.2
            simp only [hq] at hn2
            rw [(apart_acts haq hsq ha).2, if_pos hwq, (apart_acts haq hsq ha).1] at hn2
            obtain ⟨u, h3, _⟩ := hn2
            refine ⟨u, h3, ?_⟩
            simp only [hp, wP, hwp, if_true]
            refine wp_unput (ops := ops) hsp b1 b2 (fun a' w' ha hh => ⟨hh.1, ?_⟩) H
            have h5 := hh.2
            simp only [hq] at h5
            rw [(apart_acts haq hsq ha).2, if_pos hwq, (apart_acts haq hsq ha).1] at h5
            obtain ⟨u', h6, h7⟩ := h5
            have : u' = u := by have h8 := (h3 w').symm.trans (h6 w'); simpa using h8.symm
            subst this
            exact h7
          | false =>
            obtain ⟨a', w', hn, ha⟩ := wp_comes H
            have hn2 := hn
            simp only [hq] at hn2
            rw [(apart_acts haq hsq ha).2, if_pos hwq, (apart_acts haq hsq ha).1] at hn2
            obtain ⟨u, h3, _⟩ := hn2
            refine ⟨u, h3, ?_⟩
            simp only [hp, wP, hwp, if_true]
            refine wp_unput (ops := ops) hsp b1 b2 (fun a' w' ha hh => ?_) H
            have h5 := hh
            simp only [hq] at h5
            rw [(apart_acts haq hsq ha).2, if_pos hwq, (apart_acts haq hsq ha).1] at h5
            obtain ⟨u', h6, h7⟩ := h5
            have : u' = u := by have h8 := (h3 w').symm.trans (h6 w'); simpa using h8.symm
            subst this
            exact h7

        · simp [okc] at hc
        · simp [okc] at hc
/-- What stands in the plan behind p, is not after p, and is ready, comes to the front. -/
theorem front {Q : Act → World → Prop} (hsel : Region.noSelect ops = true) (q : Nat × Cls) {oq : Oper} (hq : ops[q.1]? = some oq) (post : List (Nat × Cls)) :
    ∀ (pre : List (Nat × Cls)), (∀ p ∈ pre, ∃ op, ops[p.1]? = some op ∧ op.apart ops oq = true ∧ oq.apart ops op = true ∧ okc p.2 q.2 = true) →
    ∀ (h : List (Sem Next × Value)) (a : Act) (w : World), wpPlan P ops Q (pre ++ q :: post) h a w → stepPlan P ops q (wpPlan P ops Q (pre ++ post)) h a w
  | [], _, _, _, _, H => H
  | p :: pre, hp, h, a, w, H => by
    obtain ⟨op, h1, h2, h3, h4⟩ := hp p List.mem_cons_self
    have H1 : stepPlan P ops p (wpPlan P ops Q (pre ++ q :: post)) h a w := H
    have H2 := stepPlan_mono (fun h a w => front hsel q hq post pre (fun x hx => hp x (List.mem_cons_of_mem _ hx)) h a w) H1
    exact swap hsel (fun h h' a w hs hk => wpPlan_fewer _ h h' a w hs hk) h1 hq h2 h3 h4 H2

theorem wpOp_of_step {x : Nat × Cls} {Q : Exit → Act → World → Prop} {K : List (Sem Next × Value) → Act → World → Prop} {K' : Act → World → Prop} (hk : ∀ h a w, K h a w → K' a w)
    {h : List (Sem Next × Value)} {a : Act} {w : World} (H : stepPlan P ops x K h a w) : wpOp P ops Q x.1 K' a w := by
  have weak : ∀ {o : Oper} {K1 : Act → World → Prop}, o.wp P a w K1 noWay → (∀ a w, K1 a w → K' a w) → o.wp P a w K' Q := by
    intro o K1 h1 h2
    unfold Oper.wp at *
    generalize (execOp a.eval o).run P w = r at *
    cases r with
    | ok n w' =>
      cases n <;> simp only [Oper.upon] at h1 ⊢
      case enter f args =>
        refine Calls.mono h1 fun e w'' he => ?_
        cases e with
        | returned u => exact h2 _ _ he
        | panicked c => exact he.elim
        | outgrown => obtain ⟨_, _, hx⟩ := he; exact hx.elim
      case row row args => exact Rows.mono h1 fun u w'' he => h2 _ _ he
      all_goals exact h2 _ _ h1
    | halt x w' => cases x <;> simp only [Oper.upon, noWay] at h1
  unfold stepPlan at H
  unfold wpOp
  split
  · simp_all
  · rename_i o ho
    simp only [ho] at H
    split
    · rename_i hw
      rw [if_pos hw] at H
      refine .inl ?_
      split at H
      · obtain ⟨v, h1, h2⟩ := H; unfold Oper.wp; rw [h1 w]; exact hk _ _ _ h2
      · obtain ⟨v, h1, h2⟩ := H; unfold Oper.wp; rw [h1]; exact hk _ _ _ h2
      · exact weak H (fun a w q => hk _ _ _ q.2)
      · exact weak H (fun a w q => hk _ _ _ q)
    · rename_i hw
      rw [if_neg hw] at H
      exact hk _ _ _ H

/-! ### the closure of 'after' -/
theorem foldl_bits (m : Region.Mode) (acc : Array Nat) (p : Nat) : ∀ (es : List Edge) (s : Nat),
    (es.foldl (fun s e => if Region.binds m e then s ||| 2 ^ e.on ||| acc.getD e.on 0 else s) s).testBit p = true →
    s.testBit p = true ∨ ∃ e ∈ es, Region.binds m e = true ∧ (e.on = p ∨ (acc.getD e.on 0).testBit p = true)
  | [], s, h => .inl h
  | e :: es, s, h => by
    simp only [List.foldl_cons] at h
    rcases foldl_bits m acc p es _ h with h1 | ⟨e', he', hb, hx⟩
    · split at h1
      · rename_i hb
        simp only [Nat.testBit_or, Bool.or_eq_true] at h1
        rcases h1 with (h1 | h1) | h1
        · exact .inl h1
        · refine .inr ⟨e, List.mem_cons_self, hb, .inl ?_⟩
          rw [Nat.testBit_two_pow] at h1
          simpa using h1
        · exact .inr ⟨e, List.mem_cons_self, hb, .inr h1⟩
      · exact .inl h1
    · exact .inr ⟨e', List.mem_cons_of_mem _ he', hb, hx⟩

def beforeStep (acc : Array Nat) (o : Oper) : Array Nat :=
  acc.push (o.after.foldl (fun s e => if Region.binds .any e then s ||| 2 ^ e.on ||| acc.getD e.on 0 else s) 0)

theorem before_eq (ops : Array Oper) : Region.before ops = ops.toList.foldl beforeStep #[] := by
  unfold Region.before beforeStep
  rw [← Array.foldl_toList]

/-- What the table says: of each j, whatever p it names is reached by 'after'. -/
def TableOk (ops : Array Oper) (b : Array Nat) : Prop :=
  ∀ j p, (b.getD j 0).testBit p = true → ∃ o, ops[j]? = some o ∧ ∃ e ∈ o.after, Region.binds .any e = true ∧ (e.on = p ∨ (e.on < j ∧ (b.getD e.on 0).testBit p = true))

theorem table_ok (ops : Array Oper) : TableOk ops (Region.before ops) := by
  rw [before_eq]
  have key : ∀ (l : List Oper) (k : Nat) (acc : Array Nat), acc.size = k → (∀ j, l[j]? = ops[k + j]?) → TableOk ops acc → TableOk ops (l.foldl beforeStep acc) := by
    intro l
    induction l with
    | nil => intro k acc _ _ h; exact h
    | cons o l ih =>
      intro k acc hk hl h
      simp only [List.foldl_cons]
      refine ih (k + 1) _ (by simp [beforeStep, hk]) (fun j => by have := hl (j + 1); simpa [Nat.add_assoc, Nat.add_comm 1 j] using this) ?_
      have h0 : ops[k]? = some o := by simpa using (hl 0).symm
      have old : ∀ i, i < k → (beforeStep acc o).getD i 0 = acc.getD i 0 := fun i hi => by
        simp [beforeStep, Array.getElem?_push, hk, Nat.ne_of_lt hi]
      intro j p hj
      rcases Nat.lt_trichotomy j k with hjk | hjk | hjk
      · rw [old j hjk] at hj
        obtain ⟨o', h1, e, he, hb, hx⟩ := h j p hj
        refine ⟨o', h1, e, he, hb, hx.imp id fun hx => ⟨hx.1, ?_⟩⟩
        rw [old e.on (by omega)]
        exact hx.2
      · subst hjk
        have e1 : (beforeStep acc o).getD j 0 = o.after.foldl (fun s e => if Region.binds .any e then s ||| 2 ^ e.on ||| acc.getD e.on 0 else s) 0 := by
          subst hk; simp [beforeStep]
        rw [e1, ← Array.foldl_toList] at hj
        rcases foldl_bits .any acc p o.after.toList 0 hj with h1 | ⟨e, he, hb, hx⟩
        · simp at h1
        · refine ⟨o, h0, e, by simpa using he, hb, hx.imp id fun hx => ?_⟩
          have hlt : e.on < acc.size := by
            rcases Nat.lt_or_ge e.on acc.size with h' | h'
            · exact h'
            · simp [Array.getElem?_eq_none h'] at hx
          exact ⟨by omega, by rw [old e.on (by omega)]; exact hx⟩
      · have : (beforeStep acc o).getD j 0 = 0 := by
          simp [beforeStep, Array.getElem?_push, hk, Nat.ne_of_gt hjk, Array.getElem?_eq_none (show acc.size ≤ j by omega)]
        rw [this] at hj
        simp at hj
  exact key ops.toList 0 #[] rfl (by simp) (fun j p h => by simp at h)

/-- What is listed has all that it is after listed, too. -/
def Closed (ops : Array Oper) (listed : Array Bool) : Prop :=
  ∀ j o, ops[j]? = some o → listed.getD j false = true → ∀ e ∈ o.after, Region.binds .any e = true → listed.getD e.on false = true

theorem closed_before {listed : Array Bool} (hc : Closed ops listed) : ∀ (j p : Nat), listed.getD j false = true → ((Region.before ops).getD j 0).testBit p = true → listed.getD p false = true := by
  intro j
  induction j using Nat.strongRecOn with
  | _ j ih =>
    intro p hl hb
    obtain ⟨o, ho, e, he, hbind, hx⟩ := table_ok ops j p hb
    have h1 := hc j o ho hl e he hbind
    rcases hx with hx | ⟨hlt, hx⟩
    · rw [← hx]; exact h1
    · exact ih e.on hlt p h1 hx

theorem ready_before {listed : Array Bool} (hc : Closed ops listed) {j p : Nat} (hr : j ∈ Region.ready .any ops listed) (hb : ((Region.before ops).getD j 0).testBit p = true) : listed.getD p false = true := by
  obtain ⟨_, o, ho, hall⟩ := mem_ready.1 hr
  obtain ⟨o', ho', e, he, hbind, hx⟩ := table_ok ops j p hb
  have : o' = o := Option.some.inj (ho'.symm.trans ho)
  subst this
  have h1 := hall e he hbind
  rcases hx with hx | ⟨_, hx⟩
  · rw [← hx]; exact h1
  · exact closed_before hc e.on p h1 hx

theorem pairsOk_mem {b : Array Nat} {q : Nat × Cls} : ∀ (pre post : List (Nat × Cls)), pairsOk ops b (pre ++ q :: post) = true → ∀ p ∈ pre, pairOk ops b p q = true
  | [], _, _, _, h => by cases h
  | x :: pre, post, hp, p, hm => by
    simp only [List.cons_append, pairsOk, Bool.and_eq_true, List.all_eq_true] at hp
    rcases List.mem_cons.1 hm with rfl | hm
    · exact hp.1 q (by simp)
    · exact pairsOk_mem pre post hp.2 p hm

theorem pairsOk_drop {b : Array Nat} {q : Nat × Cls} : ∀ (pre post : List (Nat × Cls)), pairsOk ops b (pre ++ q :: post) = true → pairsOk ops b (pre ++ post) = true
  | [], post, h => by simp only [List.nil_append, pairsOk, Bool.and_eq_true] at h; exact h.2
  | x :: pre, post, h => by
    simp only [List.cons_append, pairsOk, Bool.and_eq_true, List.all_eq_true] at h ⊢
    refine ⟨fun y hy => h.1 y ?_, pairsOk_drop pre post h.2⟩
    simp only [List.mem_append, List.mem_cons] at hy ⊢
    rcases hy with hy | hy
    · exact .inl hy
    · exact .inr (.inr hy)

def Topo (ops : Array Oper) : Array Bool → List (Nat × Cls) → Prop
  | _, [] => True
  | listed, x :: rest => (∃ o, ops[x.1]? = some o ∧ ∀ e ∈ o.after, Region.binds .any e = true → listed.getD e.on false = true) ∧ Topo ops (listed.setIfInBounds x.1 true) rest

theorem Topo.drop {q : Nat × Cls} {post : List (Nat × Cls)} : ∀ (pre : List (Nat × Cls)) (listed : Array Bool), Topo ops listed (pre ++ q :: post) → Topo ops (listed.setIfInBounds q.1 true) (pre ++ post)
  | [], _, h => h.2
  | p :: pre, listed, h => by
    obtain ⟨⟨o, ho, h1⟩, h2⟩ := h
    refine ⟨⟨o, ho, fun e he hb => getD_set_true (h1 e he hb)⟩, ?_⟩
    have := Topo.drop pre (listed.setIfInBounds p.1 true) h2
    by_cases hpq : p.1 = q.1
    · rw [hpq] at this ⊢; exact this
    · rw [Array.setIfInBounds_comm _ _ (Ne.symm hpq)]; exact this

theorem topo_of : ∀ (pl : List (Nat × Cls)) (done : List Nat) (listed : Array Bool), listed.size = ops.size → (∀ i ∈ done, listed.getD i false = true) → topoOk ops pl done = true → Topo ops listed pl
  | [], _, _, _, _, _ => trivial
  | x :: rest, done, listed, hs, hd, h => by
    simp only [topoOk, Bool.and_eq_true] at h
    obtain ⟨⟨h1, _⟩, h3⟩ := h
    cases ho : ops[x.1]? with
    | none => simp [ho] at h1
    | some o =>
      simp only [ho, Array.all_eq_true_iff_forall_mem, Bool.or_eq_true, Bool.not_eq_true', List.contains_iff_mem] at h1
      have hlt : x.1 < listed.size := by rw [hs]; exact (Array.getElem?_eq_some_iff.1 ho).1
      refine ⟨⟨o, ho, fun e he hb => hd _ ((h1 e he).resolve_left (by simp [hb]))⟩, topo_of rest (x.1 :: done) _ (by simpa using hs) (fun i hi => ?_) h3⟩
      rcases List.mem_cons.1 hi with rfl | hi
      · simp [hlt]
      · exact getD_set_true (hd i hi)

theorem nodup_of : ∀ (pl : List (Nat × Cls)) (done : List Nat), topoOk ops pl done = true → (pl.map (·.1)).Nodup ∧ ∀ i ∈ pl.map (·.1), i ∉ done
  | [], _, _ => ⟨by simp, by simp⟩
  | x :: rest, done, h => by
    simp only [topoOk, Bool.and_eq_true, Bool.not_eq_true'] at h
    obtain ⟨⟨_, h2⟩, h3⟩ := h
    obtain ⟨i1, i2⟩ := nodup_of rest (x.1 :: done) h3
    refine ⟨?_, ?_⟩
    · rw [List.map_cons, List.nodup_cons]
      exact ⟨fun hm => i2 _ hm List.mem_cons_self, i1⟩
    · intro i hi
      rw [List.map_cons, List.mem_cons] at hi
      rcases hi with rfl | hi
      · intro hd; have : done.contains x.1 = true := List.contains_iff_mem.2 hd; rw [this] at h2; cases h2
      · exact fun hd => i2 i hi (List.mem_cons_of_mem _ hd)

/-- THE PLAN SERVES EVERY ORDER. -/
theorem wpAny_of_plan {Q : Exit → Act → World → Prop} (hsel : Region.noSelect ops = true) : ∀ (n : Nat) (pl : List (Nat × Cls)) (listed : Array Bool) (h : List (Sem Next × Value)) (a : Act) (w : World),
    pl.length = n → listed.size = ops.size → Closed ops listed → pairsOk ops (Region.before ops) pl = true → (pl.map (·.1)).Nodup →
    (∀ i, i < ops.size → (listed.getD i false = false ↔ i ∈ pl.map (·.1))) → Topo ops listed pl →
    wpPlan P ops (Q .normal) pl h a w → wpAny P .any ops Q n listed a w := by
  intro n
  induction n with
  | zero =>
    intro pl listed h a w hn hs _ _ _ hu _ H
    have : pl = [] := List.eq_nil_of_length_eq_zero hn
    subst this
    refine ⟨?_, H⟩
    cases hr : Region.ready .any ops listed with
    | nil => rfl
    | cons j t =>
      obtain ⟨h0, o, ho, _⟩ := mem_ready.1 (show j ∈ Region.ready .any ops listed by rw [hr]; exact List.mem_cons_self)
      have hlt := (Array.getElem?_eq_some_iff.1 ho).1
      have := (hu j hlt).1 (by simpa [hs, hlt] using h0)
      cases this
  | succ n ih =>
    intro pl listed h a w hn hs hcl hpr hnd hu htp H
    refine ⟨fun h0 => ?_, fun j hj => ?_⟩
    · cases pl with
      | nil => cases hn
      | cons x rest =>
        obtain ⟨⟨o, ho, h1⟩, _⟩ := htp
        have hlt := (Array.getElem?_eq_some_iff.1 ho).1
        have hun := (hu x.1 hlt).2 (by simp)
        have : x.1 ∈ Region.ready .any ops listed := mem_ready.2 ⟨by simpa [hs, hlt] using hun, o, ho, h1⟩
        rw [h0] at this
        cases this
    · obtain ⟨hun, oj, hoj, hall⟩ := mem_ready.1 hj
      have hlt := (Array.getElem?_eq_some_iff.1 hoj).1
      have hmem := (hu j hlt).1 (by simpa [hs, hlt] using hun)
      obtain ⟨x, hx, hxj⟩ := List.mem_map.1 hmem
      obtain ⟨pre, post, rfl⟩ := List.append_of_mem hx
      subst hxj
      have hfr : ∀ p ∈ pre, ∃ op, ops[p.1]? = some op ∧ op.apart ops oj = true ∧ oj.apart ops op = true ∧ okc p.2 x.2 = true := by
        intro p hp
        have hpo := pairsOk_mem pre post hpr p hp
        simp only [pairOk, Bool.or_eq_true, Bool.and_eq_true] at hpo
        have hpl : p.1 ∈ (pre ++ x :: post).map (·.1) := List.mem_map.2 ⟨p, by simp [hp], rfl⟩
        rcases hpo with hb | ⟨hc, hap⟩
        · have h1 := ready_before hcl hj hb
          have hp2 : p.1 < ops.size := by
            rcases Nat.lt_or_ge p.1 ops.size with h' | h'
            · exact h'
            · simp [Array.getElem?_eq_none (show listed.size ≤ p.1 by omega)] at h1
          have h2 := (hu p.1 hp2).2 hpl
          rw [h1] at h2
          cases h2
        · rw [hoj] at hap
          cases hop : ops[p.1]? with
          | none => simp [hop] at hap
          | some op =>
            simp only [hop, Bool.and_eq_true] at hap
            exact ⟨op, rfl, hap.1, hap.2, hc⟩
      have H1 := front hsel x hoj post pre hfr h a w H
      refine wpOp_of_step (fun h a w hk => ?_) H1
      rw [List.map_append, List.map_cons] at hnd
      have hnd' : ((pre ++ post).map (·.1)).Nodup := by
        rw [List.map_append]
        exact List.Nodup.sublist (List.Sublist.append_left (List.sublist_cons_self _ _) _) hnd
      have hxn : x.1 ∉ (pre ++ post).map (·.1) := by
        rw [List.map_append, List.mem_append]
        rw [List.nodup_append] at hnd
        obtain ⟨_, h2, h3⟩ := hnd
        rintro (hm | hm)
        · exact h3 _ hm _ List.mem_cons_self rfl
        · exact (List.nodup_cons.1 h2).1 hm
      refine ih (pre ++ post) _ h a w (by simp at hn ⊢; omega) (by simpa using hs) ?_ (pairsOk_drop pre post hpr) hnd' ?_ (htp.drop pre listed) hk
      · intro i o ho hl e he hb
        by_cases hij : x.1 = i
        · subst hij
          have : o = oj := Option.some.inj (ho.symm.trans hoj)
          subst this
          exact getD_set_true (hall e he hb)
        · rw [getD_set_ne false hij] at hl
          exact getD_set_true (hcl i o ho hl e he hb)
      · intro i hi
        by_cases hij : x.1 = i
        · subst hij
          refine ⟨fun h0 => ?_, fun hm => absurd hm hxn⟩
          simp [hs, hlt] at h0
        · rw [getD_set_ne false hij, hu i hi]
          simp only [List.map_append, List.mem_append, List.map_cons, List.mem_cons]
          constructor
          · rintro (h1 | h1 | h1)
            · exact .inl h1
            · exact absurd h1.symm hij
            · exact .inr h1
          · rintro (h1 | h1)
            · exact .inl h1
            · exact .inr (.inr h1)

theorem getD_replicate {m j : Nat} : (Array.replicate m false).getD j false = false := by
  rcases Nat.lt_or_ge j m with h | h
  · simp [h]
  · simp [h]

/-- A REGION WHOSE ORDER IS OPEN, BY ITS PLAN. -/
theorem wp_region_plan {id : Nat} {l : List Oper} {Q : Exit → Act → World → Prop} {a : Act} {w : World} (pl : List (Nat × Cls)) (hm : P.follows .mixedOrders = true) (hB : planB l.toArray pl = true)
    (H : wpPlan P l.toArray (Q .normal) pl [] a w.drew) : (Code.region id l.toArray true).wp P Q a w := by
  simp only [planB, Bool.and_eq_true, decide_eq_true_eq] at hB
  obtain ⟨⟨⟨⟨h1, h2⟩, h3⟩, h4⟩, h5⟩ := hB
  refine wp_region_any hm ?_
  refine wpAny_of_plan h1 _ pl _ [] a _ h4 (by simp) (fun j o _ hl => by rw [getD_replicate] at hl; cases hl) h2 (nodup_of pl [] h3).1 (fun i hi => ?_) (topo_of pl [] _ (by simp) (by simp) h3) H
  rw [getD_replicate]
  simp only [true_iff]
  have := List.all_eq_true.1 h5 i (List.mem_range.2 hi)
  obtain ⟨x, hx, hxi⟩ := List.any_eq_true.1 this
  exact List.mem_map.2 ⟨x, hx, by simpa using hxi⟩

/-! ### the steps of a plan -/
section
variable {l : List Oper} {Q : Act → World → Prop} {i : Nat} {o : Oper} {rest : List (Nat × Cls)} {h : List (Sem Next × Value)} {a : Act} {w : World}

theorem plan_nil (H : Q a w) : wpPlan P l.toArray Q [] h a w := H

theorem plan_free {v : Value} (ho : l[i]? = some o) (hw : Region.wanted o (yielded l.toArray a.tmps) = true) (h1 : ∀ w', (execOp a.eval o).run P w' = .ok (.value v) w')
    (h2 : ∀ K : Act → World → Prop, (∀ a w, wpPlan P l.toArray Q rest h a w → K a w) → K (a.put o.dst v) w) : wpPlan P l.toArray Q ((i, none) :: rest) h a w := by
  unfold wpPlan stepPlan
  simp only [List.getElem?_toArray, ho, hw, if_true]
  exact ⟨v, h1, h2 _ fun _ _ h => h⟩

theorem plan_held {v : Value} (ho : l[i]? = some o) (hw : Region.wanted o (yielded l.toArray a.tmps) = true) (h1 : (execOp a.eval o).run P w = .ok (.value v) w)
    (h2 : ∀ K : Act → World → Prop, (∀ a' w, wpPlan P l.toArray Q rest ((execOp a.eval o, v) :: h) a' w → K a' w) → K (a.put o.dst v) w) : wpPlan P l.toArray Q ((i, some none) :: rest) h a w := by
  unfold wpPlan stepPlan
  simp only [List.getElem?_toArray, ho, hw, if_true]
  exact ⟨v, h1, h2 _ fun _ _ h => h⟩

theorem plan_eff (ho : l[i]? = some o) (hw : Region.wanted o (yielded l.toArray a.tmps) = true)
    (h1 : ∀ K : Act → World → Prop, (∀ a w, wpPlan P l.toArray Q rest [] a w → K a w) → o.wp P a w K noWay) : wpPlan P l.toArray Q ((i, some (some false)) :: rest) h a w := by
  unfold wpPlan stepPlan
  simp only [List.getElem?_toArray, ho, hw, if_true]
  exact h1 _ fun _ _ h => h

theorem plan_effH (ho : l[i]? = some o) (hw : Region.wanted o (yielded l.toArray a.tmps) = true)
    (h1 : ∀ K : Act → World → Prop, (∀ a w, (heldAll P h w ∧ wpPlan P l.toArray Q rest h a w) → K a w) → o.wp P a w K noWay) : wpPlan P l.toArray Q ((i, some (some true)) :: rest) h a w := by
  unfold wpPlan stepPlan
  simp only [List.getElem?_toArray, ho, hw, if_true]
  exact h1 _ fun _ _ h => h

theorem plan_skip {c : Cls} (ho : l[i]? = some o) (hw : Region.wanted o (yielded l.toArray a.tmps) = false)
    (h2 : ∀ K : Act → World → Prop, (∀ a w, wpPlan P l.toArray Q rest h a w → K a w) → K (a.put o.dst undef) w) : wpPlan P l.toArray Q ((i, c) :: rest) h a w := by
  unfold wpPlan stepPlan
  simp only [List.getElem?_toArray, ho, hw, Bool.false_eq_true, if_false]
  exact h2 _ fun _ _ h => h
end
end
end Go.Proofs.Ytbcpdjhpceimlaa
