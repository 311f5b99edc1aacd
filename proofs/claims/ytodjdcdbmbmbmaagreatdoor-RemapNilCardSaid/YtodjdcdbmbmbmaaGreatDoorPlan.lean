/-
  A region that draws its order, walked once along a plan: conditions on the world that hold till a given operation has come up. Generic, no program in sight.
-/
import Derived.OrdersHeld
import Derived.WalkKit
namespace PH
open Go

/-- (k, p): p holds of the world till operation number k has come up. -/
abbrev Conds := List (Nat × (World → Prop))

section
variable {P : Program} {ops : Array Oper} {Q : Exit → Act → World → Prop} {md : Region.Mode} {cs : Conds} {T : Act → World → Prop}

def Until (cs : Conds) (listed : Array Bool) (w : World) : Prop := ∀ c ∈ cs, listed.getD c.1 false = false → c.2 w

def waitsB (md : Region.Mode) (ops : Array Oper) (k i : Nat) : Bool :=
  match ops[k]? with
  | some o => o.after.any fun e => Region.binds md e && e.on == i
  | none => true

/-- What operation i may lean on. -/
def condI (md : Region.Mode) (ops : Array Oper) (cs : Conds) (i : Nat) (w : World) : Prop := ∀ c ∈ cs, waitsB md ops c.1 i = true → c.2 w

def Closed (md : Region.Mode) (ops : Array Oper) (listed : Array Bool) : Prop :=
  listed.size = ops.size ∧ ∀ (j : Nat) (oj : Oper), ops[j]? = some oj → listed.getD j false = true → ∀ e ∈ oj.after, Region.binds md e = true → listed.getD e.on false = true

theorem Closed.start : Closed md ops (Array.replicate ops.size false) := by
  refine ⟨by simp, fun j oj hj hl => ?_⟩
  rcases Nat.lt_or_ge j ops.size with h | h
  · simp [h] at hl
  · simp [Array.getElem?_eq_none h] at hj

theorem Closed.set {listed : Array Bool} {i : Nat} (c : Closed md ops listed) (hi : i ∈ Region.ready md ops listed) : Closed md ops (listed.setIfInBounds i true) := by
  obtain ⟨_, oi, hoi, hall⟩ := mem_ready.1 hi
  refine ⟨by simp [c.1], fun j oj hj hl e he hb => ?_⟩
  by_cases hij : i = j
  · subst hij
    have : oj = oi := Option.some.inj (hj.symm.trans hoi)
    subst this
    exact getD_set_true (hall e he hb)
  · rw [getD_set_ne false hij] at hl
    exact getD_set_true (c.2 j oj hj hl e he hb)

theorem condI_of_until {listed : Array Bool} {i : Nat} {w : World} (c : Closed md ops listed) (hi : listed.getD i true = false) (h : Until cs listed w) : condI md ops cs i w := by
  intro x hx hw
  refine h x hx ?_
  unfold waitsB at hw
  split at hw
  · rename_i ok hk
    obtain ⟨e, he, hb⟩ := Array.any_eq_true'.1 hw
    simp only [Bool.and_eq_true, beq_iff_eq] at hb
    cases hl : listed.getD x.1 false with
    | false => rfl
    | true =>
      have := c.2 x.1 ok hk hl e he hb.1
      rw [hb.2] at this
      rcases Nat.lt_or_ge i listed.size with h' | h'
      · simp [h'] at hi this; rw [hi] at this; cases this
      · simp [Array.getElem?_eq_none h'] at hi
  · rename_i hk
    have : ops.size ≤ x.1 := by simpa using hk
    have h' : listed.size ≤ x.1 := by rw [c.1]; exact this
    simp [Array.getElem?_eq_none h']

def wpAnyU (P : Program) (md : Region.Mode) (ops : Array Oper) (Q : Exit → Act → World → Prop) (cs : Conds) : Nat → Array Bool → Act → World → Prop
  | 0, listed, a, w => Region.ready md ops listed = [] ∧ Q .normal a w
  | fuel + 1, listed, a, w =>
    (Region.ready md ops listed = [] → Q .normal a w) ∧
    ∀ i ∈ Region.ready md ops listed, wpOp P ops Q i (fun a' w' => Until cs (listed.setIfInBounds i true) w' ∧ wpAnyU P md ops Q cs fuel (listed.setIfInBounds i true) a' w') a w

theorem wpAny_of_U : ∀ (fuel : Nat) (listed : Array Bool) (a : Act) (w : World), wpAnyU P md ops Q cs fuel listed a w → wpAny P md ops Q fuel listed a w
  | 0, _, _, _, h => h
  | fuel + 1, _, _, _, h => ⟨h.1, fun i hi => wpOp_mono (fun a' w' h' => wpAny_of_U fuel _ a' w' h'.2) (h.2 i hi)⟩

/-- An operation that yields its value whatever comes before it may be taken first. -/
theorem wpAnyU_first {i : Nat} {oi : Oper} {v : Value} (hi : ops[i]? = some oi) (hsel : ∀ (j : Nat) (o : Oper) cs b, ops[j]? = some o → o.op ≠ .select cs b)
    (hQ : ∀ c a w, Q (.panic c) (a.put oi.dst v) w → Q (.panic c) a w) (hci : ∀ c ∈ cs, c.1 ≠ i) :
    ∀ (fuel : Nat) (listed : Array Bool) (a : Act) (w : World), Closed md ops listed →
      (∀ j oj, ops[j]? = some oj → j ≠ i → listed.getD j true = false → (∀ e ∈ oj.after, Region.binds md e = true → e.on ≠ i) → oi.apart ops oj = true) →
      i ∈ Region.ready md ops listed → YieldsIf P ops (condI md ops cs i) oi v a → Until cs listed w →
      wpAnyU P md ops Q cs fuel (listed.setIfInBounds i true) (a.put oi.dst v) w → wpAnyU P md ops Q cs (fuel + 1) listed a w := by
  have hmore : ∀ (listed : Array Bool) (w : World), Until cs listed w → Until cs (listed.setIfInBounds i true) w := fun listed w h c hc hl => by
    refine h c hc ?_
    rwa [getD_set_ne false (fun e => hci c hc e.symm)] at hl
  intro fuel
  induction fuel with
  | zero =>
    intro listed a w cl _ hr hy hS H
    refine ⟨fun h => (by rw [h] at hr; cases hr), fun j hj => ?_⟩
    by_cases hji : j = i
    · subst hji; exact hy.wpOp hi (condI_of_until cl (mem_ready.1 hr).1 hS) ⟨hmore _ _ hS, H⟩
    · have := ready_mono hj hji
      rw [H.1] at this
      cases this
  | succ fuel ih =>
    intro listed a w cl hfree hr hy hS H
    refine ⟨fun h => (by rw [h] at hr; cases hr), fun j hj => ?_⟩
    by_cases hji : j = i
    · subst hji; exact hy.wpOp hi (condI_of_until cl (mem_ready.1 hr).1 hS) ⟨hmore _ _ hS, H⟩
    · have h1 := H.2 j (ready_mono hj hji)
      obtain ⟨hjun, oj, hoj, hall⟩ := mem_ready.1 hj
      have hnot : ∀ e ∈ oj.after, Region.binds md e = true → e.on ≠ i := fun e he hb heq => by
        have h1 := hall e he hb
        have h0 := (mem_ready.1 hr).1
        rw [heq] at h1
        rcases Nat.lt_or_ge i listed.size with h' | h'
        · simp [h'] at h0 h1; rw [h0] at h1; cases h1
        · simp [Array.getElem?_eq_none h'] at h1
      have h2 := wpOp_putIf hoj (hfree j oj hoj hji hjun hnot) (fun cs b => hsel i oi cs b hi) (fun cs b => hsel j oj cs b hoj) hQ hy h1
      have hfree' : ∀ k ok, ops[k]? = some ok → k ≠ i → (listed.setIfInBounds j true).getD k true = false →
          (∀ e ∈ ok.after, Region.binds md e = true → e.on ≠ i) → oi.apart ops ok = true := fun k ok hk hki hun hno => by
        refine hfree k ok hk hki ?_ hno
        by_cases hjk : j = k
        · subst hjk; exact hjun
        · rw [getD_set_ne true hjk] at hun; exact hun
      refine wpOp_mono (fun a' w' h3 => ?_) h2
      obtain ⟨hy', hU, hrest⟩ := h3
      have hU' : Until cs (listed.setIfInBounds j true) w' := fun c hc hl => hU c hc (by
        rw [Array.setIfInBounds_comm _ _ (Ne.symm hji), getD_set_ne false (fun e => hci c hc e.symm)]; exact hl)
      refine ⟨hU', ih (listed.setIfInBounds j true) a' w' (cl.set hj) hfree' (ready_mono hr (Ne.symm hji)) hy' hU' ?_⟩
      rw [Array.setIfInBounds_comm _ _ hji]
      exact hrest

/-- The plan: operations in the order in which they are walked, with the mark 'quiet' (it yields a value and does nothing else). -/
def wpPlan (P : Program) (md : Region.Mode) (ops : Array Oper) (Q : Exit → Act → World → Prop) (cs : Conds) (T : Act → World → Prop) : List (Nat × Bool) → Act → World → Prop
  | [], a, w => T a w
  | (i, q) :: rest, a, w =>
    match ops[i]? with
    | none => False
    | some o => if q then ∃ v, YieldsIf P ops (condI md ops cs i) o v a ∧ wpPlan P md ops Q cs T rest (a.put o.dst v) w
      else wpOp P ops Q i (fun a' w' => (∀ c ∈ cs, (rest.any fun x => x.1 == c.1) || decide (ops.size ≤ c.1) → c.2 w') ∧ wpPlan P md ops Q cs T rest a' w') a w

def planOk (md : Region.Mode) (ops : Array Oper) (ks : List Nat) : List (Nat × Bool) → Array Bool → Bool
  | [], listed => (Region.ready md ops listed).isEmpty
  | (i, true) :: rest, listed => (Region.ready md ops listed).contains i && Region.free md ops listed i && !ks.contains i && planOk md ops ks rest (listed.setIfInBounds i true)
  | (i, false) :: rest, listed => decide (Region.ready md ops listed = [i]) && planOk md ops ks rest (listed.setIfInBounds i true)

/-- What is not in the plan's rest has come up. -/
def restOk (ops : Array Oper) (rest : List (Nat × Bool)) (listed : Array Bool) : Prop :=
  listed.size = ops.size ∧ ∀ j, listed.getD j false = false → (rest.any fun x => x.1 == j) = true ∨ ops.size ≤ j

theorem restOk.set {i : Nat} {q : Bool} {rest : List (Nat × Bool)} {listed : Array Bool} (h : restOk ops ((i, q) :: rest) listed) : restOk ops rest (listed.setIfInBounds i true) := by
  refine ⟨by simp [h.1], fun j hj => ?_⟩
  by_cases e : i = j
  · subst e
    rcases Nat.lt_or_ge i listed.size with h' | h'
    · simp [h'] at hj
    · right; rw [h.1] at h'; exact h'
  · rw [getD_set_ne false e] at hj
    rcases h.2 j hj with h2 | h2
    · rw [List.any_cons] at h2
      simp only [Bool.or_eq_true, beq_iff_eq] at h2
      exact .inl (h2.resolve_left e)
    · exact .inr h2

theorem wpAnyU_plan (hsel : Region.noSelect ops = true) (hQ : ∀ c a d v w, Q (.panic c) (Act.put a d v) w → Q (.panic c) a w) :
    ∀ (plan : List (Nat × Bool)) (listed : Array Bool) (a : Act) (w : World), Closed md ops listed → restOk ops plan listed → planOk md ops (cs.map (·.1)) plan listed = true → Until cs listed w →
      wpPlan P md ops Q cs (Q .normal) plan a w → wpAnyU P md ops Q cs plan.length listed a w
  | [], listed, a, w, _, _, hp, _, h => ⟨by simpa [planOk] using hp, h⟩
  | (i, true) :: rest, listed, a, w, cl, ro, hp, hU, h => by
    simp only [planOk, Bool.and_eq_true, Bool.not_eq_true', List.contains_eq_mem, decide_eq_true_eq, decide_eq_false_iff_not] at hp
    obtain ⟨⟨⟨hr, hf⟩, hk⟩, hp⟩ := hp
    unfold wpPlan at h
    split at h
    · exact h.elim
    · rename_i o ho
      obtain ⟨v, hy, h⟩ := h
      have hci : ∀ c ∈ cs, c.1 ≠ i := fun c hc e => hk (by rw [← e]; exact List.mem_map_of_mem hc)
      have hU' : Until cs (listed.setIfInBounds i true) w := fun c hc hl => hU c hc (by rwa [getD_set_ne false (fun e => hci c hc e.symm)] at hl)
      exact wpAnyU_first ho (Region.noSelect_spec hsel) (fun c a w => hQ c a _ _ w) hci rest.length listed a w cl (Region.free_spec ho hf) hr hy hU
        (wpAnyU_plan hsel hQ rest _ _ w (cl.set hr) ro.set hp hU' h)
  | (i, false) :: rest, listed, a, w, cl, ro, hp, hU, h => by
    simp only [planOk, Bool.and_eq_true, decide_eq_true_eq] at hp
    obtain ⟨hr, hp⟩ := hp
    unfold wpPlan at h
    split at h
    · exact h.elim
    · rename_i o ho
      refine ⟨fun h0 => (by rw [hr] at h0; cases h0), fun j hj => ?_⟩
      have hji : j = i := by rw [hr] at hj; simpa using hj
      subst hji
      simp only [Bool.false_eq_true, if_false] at h
      refine wpOp_mono (fun a' w' h' => ?_) h
      have hU' : Until cs (listed.setIfInBounds j true) w' := fun c hc hl => h'.1 c hc (by
        rcases ro.set.2 c.1 hl with h2 | h2
        · simp [h2]
        · simp [h2])
      exact ⟨hU', wpAnyU_plan hsel hQ rest _ _ w' (cl.set hj) ro.set hp hU' h'.2⟩

/-- THE LAW: a region that draws, walked along a plan. -/
theorem wpAny_plan {a : Act} {w : World} {l : List Oper} (plan : List (Nat × Bool)) (cs : Conds)
    (hB : (Region.noSelect l.toArray && decide (plan.length = l.length) && (List.range l.length).all (fun j => plan.any fun x => x.1 == j) && planOk .any l.toArray (cs.map (·.1)) plan (Array.replicate l.length false)) = true)
    (hQ : ∀ c a d v w, Q (.panic c) (Act.put a d v) w → Q (.panic c) a w)
    (hU : ∀ c ∈ cs, c.2 w.drew) (h : wpPlan P .any l.toArray Q cs (Q .normal) plan a w.drew) : wpAny P .any l.toArray Q l.toArray.size (Array.replicate l.toArray.size false) a { w with drawn := w.drawn + 1 } := by
  simp only [Bool.and_eq_true, decide_eq_true_eq] at hB
  obtain ⟨⟨⟨hsel, hlen⟩, hall⟩, hp⟩ := hB
  have hs : l.toArray.size = l.length := by simp
  have := wpAnyU_plan (P := P) (Q := Q) (cs := cs) hsel hQ plan (Array.replicate l.length false) a w.drew (by rw [← hs]; exact Closed.start) ⟨by simp, fun j _ => by
    rcases Nat.lt_or_ge j l.length with h' | h'
    · exact .inl (List.all_eq_true.1 hall j (List.mem_range.2 h'))
    · right; rw [hs]; exact h'⟩ hp (fun c hc _ => hU c hc) h
  rw [hlen] at this
  rw [hs]
  exact wpAny_of_U _ _ _ _ this

/-! The plan with its operations written out -/
def planOps (l : List Oper) : List (Nat × Bool) → List (Nat × Bool × Oper)
  | [] => []
  | (i, q) :: r => match l[i]? with
    | some o => (i, q, o) :: planOps l r
    | none => []

/-- The conditions that still stand when the plan's rest is to come. -/
def live (n : Nat) (rest : List (Nat × Bool × Oper)) : Conds → World → Prop
  | [], _ => True
  | c :: cs, w => if ((rest.any fun x => x.1 == c.1) || decide (n ≤ c.1)) = true then c.2 w ∧ live n rest cs w else live n rest cs w
theorem live_all {n : Nat} {rest : List (Nat × Bool × Oper)} {w : World} : ∀ {cs : Conds}, live n rest cs w → ∀ c ∈ cs, ((rest.any fun x => x.1 == c.1) || decide (n ≤ c.1)) = true → c.2 w
  | d :: cs, h, c, hc, hl => by
    unfold live at h
    rcases List.mem_cons.1 hc with rfl | hc
    · rw [if_pos hl] at h; exact h.1
    · split at h
      · exact live_all h.2 c hc hl
      · exact live_all h c hc hl

def wpPlanL (P : Program) (md : Region.Mode) (ops : Array Oper) (Q : Exit → Act → World → Prop) (cs : Conds) (T : Act → World → Prop) : List (Nat × Bool × Oper) → Act → World → Prop
  | [], a, w => T a w
  | (i, true, o) :: rest, a, w => ∃ v, YieldsIf P ops (condI md ops cs i) o v a ∧ wpPlanL P md ops Q cs T rest (a.put o.dst v) w
  | (_, false, o) :: rest, a, w =>
    if Region.wanted o (yielded ops a.tmps) = true then o.wp P a w (fun a' w' => live ops.size rest cs w' ∧ wpPlanL P md ops Q cs T rest a' w') Q
    else live ops.size rest cs w ∧ wpPlanL P md ops Q cs T rest (a.put o.dst undef) w

theorem planOps_any {l : List Oper} : ∀ {plan : List (Nat × Bool)}, (plan.all fun x => decide (x.1 < l.length)) = true → ∀ k, ((planOps l plan).any fun x => x.1 == k) = (plan.any fun x => x.1 == k)
  | [], _, _ => rfl
  | (i, q) :: r, h, k => by
    simp only [List.all_cons, Bool.and_eq_true, decide_eq_true_eq] at h
    simp only [planOps, List.getElem?_eq_getElem h.1, List.any_cons, planOps_any h.2]

theorem plan_of_L {l : List Oper} : ∀ (plan : List (Nat × Bool)) (a : Act) (w : World), (plan.all fun x => decide (x.1 < l.length)) = true →
    wpPlanL P md l.toArray Q cs T (planOps l plan) a w → wpPlan P md l.toArray Q cs T plan a w
  | [], _, _, _, h => h
  | (i, q) :: r, a, w, hl, h => by
    simp only [List.all_cons, Bool.and_eq_true, decide_eq_true_eq] at hl
    have ho : l.toArray[i]? = some l[i] := by simp [hl.1]
    simp only [planOps, List.getElem?_eq_getElem hl.1] at h
    unfold wpPlan
    simp only [ho]
    have hlive : ∀ w', live l.toArray.size (planOps l r) cs w' → ∀ c ∈ cs, ((r.any fun x => x.1 == c.1) || decide (l.toArray.size ≤ c.1)) = true → c.2 w' := fun w' h1 c hc h2 =>
      live_all h1 c hc (by rw [planOps_any hl.2]; exact h2)
    cases q with
    | true =>
      obtain ⟨v, hy, h⟩ := h
      simp only [if_true]
      exact ⟨v, hy, plan_of_L r _ _ hl.2 h⟩
    | false =>
      simp only [Bool.false_eq_true, if_false]
      unfold wpPlanL at h
      unfold wpOp
      simp only [ho]
      split
      · rename_i hw
        rw [if_pos hw] at h
        exact .inl (Oper.wp_mono (fun a' w' h' => ⟨hlive w' h'.1, plan_of_L r _ _ hl.2 h'.2⟩) h)
      · rename_i hw
        rw [if_neg hw] at h
        exact ⟨hlive w h.1, plan_of_L r _ _ hl.2 h.2⟩

/-- THE LAW: a region that draws, walked along a plan. -/
theorem wpAny_region {a : Act} {w : World} {l : List Oper} (plan : List (Nat × Bool)) (cs : Conds)
    (hB : (Region.noSelect l.toArray && decide (plan.length = l.length) && (List.range l.length).all (fun j => plan.any fun x => x.1 == j) && planOk .any l.toArray (cs.map (·.1)) plan (Array.replicate l.length false)
      && plan.all fun x => decide (x.1 < l.length)) = true)
    (hQ : ∀ c a d v w, Q (.panic c) (Act.put a d v) w → Q (.panic c) a w)
    (hU : live l.length (planOps l plan) cs w.drew) (h : wpPlanL P .any l.toArray Q cs (Q .normal) (planOps l plan) a w.drew) :
    wpAny P .any l.toArray Q l.toArray.size (Array.replicate l.toArray.size false) a { w with drawn := w.drawn + 1 } := by
  rw [Bool.and_eq_true] at hB
  have hB1 := hB.1
  simp only [Bool.and_eq_true, decide_eq_true_eq] at hB1
  refine wpAny_plan plan cs hB.1 hQ (fun c hc => live_all hU c hc ?_) (plan_of_L plan a w.drew hB.2 h)
  rw [planOps_any hB.2]
  rcases Nat.lt_or_ge c.1 l.length with h' | h'
  · rw [List.all_eq_true.1 hB1.1.2 c.1 (List.mem_range.2 h')]; rfl
  · simp [h']

theorem wp_region_planL {id : Nat} {a : Act} {w : World} {l : List Oper} (plan : List (Nat × Bool)) (cs : Conds) (hm : P.follows .mixedOrders = true)
    (hB : (Region.noSelect l.toArray && decide (plan.length = l.length) && (List.range l.length).all (fun j => plan.any fun x => x.1 == j) && planOk .any l.toArray (cs.map (·.1)) plan (Array.replicate l.length false)
      && plan.all fun x => decide (x.1 < l.length)) = true)
    (hQ : ∀ c a d v w, Q (.panic c) (Act.put a d v) w → Q (.panic c) a w)
    (hU : live l.length (planOps l plan) cs w.drew) (h : wpPlanL P .any l.toArray Q cs (Q .normal) (planOps l plan) a w.drew) : (Code.region id l.toArray true).wp P Q a w :=
  wp_region_any hm (wpAny_region plan cs hB hQ hU h)

/-! The moves -/
theorem plan_nil {a : Act} {w : World} (h : T a w) : wpPlanL P md ops Q cs T [] a w := h
theorem plan_quiet {i : Nat} {o : Oper} {v : Value} {rest : List (Nat × Bool × Oper)} {a : Act} {w : World} (hw : Region.wanted o (yielded ops a.tmps) = true)
    (hy : ∀ w, condI md ops cs i w → (execOp a.eval o).run P w = .ok (.value v) w) (h : wpPlanL P md ops Q cs T rest (a.put o.dst v) w) : wpPlanL P md ops Q cs T ((i, true, o) :: rest) a w :=
  ⟨v, .inl ⟨hw, hy⟩, h⟩
/-- A quiet operation that leans on nothing. -/
theorem plan_pure {i : Nat} {o : Oper} {v : Value} {rest : List (Nat × Bool × Oper)} {a : Act} {w : World} (hw : Region.wanted o (yielded ops a.tmps) = true)
    (hy : ∀ w, (execOp a.eval o).run P w = .ok (.value v) w) (h : wpPlanL P md ops Q cs T rest (a.put o.dst v) w) : wpPlanL P md ops Q cs T ((i, true, o) :: rest) a w :=
  plan_quiet hw (fun w _ => hy w) h
/-- A quiet operation that leans on condition number m. -/
theorem plan_load (m : Nat) {k : Nat} {p : World → Prop} {i : Nat} {o : Oper} {v : Value} {rest : List (Nat × Bool × Oper)} {a : Act} {w : World} (hc : cs[m]? = some (k, p)) (hk : waitsB md ops k i = true)
    (hw : Region.wanted o (yielded ops a.tmps) = true)
    (hy : ∀ w, p w → (execOp a.eval o).run P w = .ok (.value v) w) (h : wpPlanL P md ops Q cs T rest (a.put o.dst v) w) : wpPlanL P md ops Q cs T ((i, true, o) :: rest) a w :=
  plan_quiet hw (fun w hw => hy w (hw (k, p) (List.mem_of_getElem? hc) hk)) h
theorem plan_skip {i : Nat} {o : Oper} {rest : List (Nat × Bool × Oper)} {a : Act} {w : World} (hw : Region.wanted o (yielded ops a.tmps) = false)
    (h : wpPlanL P md ops Q cs T rest (a.put o.dst undef) w) : wpPlanL P md ops Q cs T ((i, true, o) :: rest) a w :=
  ⟨undef, .inr ⟨hw, rfl⟩, h⟩
theorem plan_loud {i : Nat} {o : Oper} {rest : List (Nat × Bool × Oper)} {a : Act} {w : World} (hw : Region.wanted o (yielded ops a.tmps) = true)
    (h : ∀ K : Act → World → Prop, (∀ a' w', live ops.size rest cs w' → wpPlanL P md ops Q cs T rest a' w' → K a' w') → o.wp P a w K Q) : wpPlanL P md ops Q cs T ((i, false, o) :: rest) a w := by
  unfold wpPlanL
  rw [if_pos hw]
  exact h _ fun a' w' h1 h2 => ⟨h1, h2⟩
theorem plan_loudSkip {i : Nat} {o : Oper} {rest : List (Nat × Bool × Oper)} {a : Act} {w : World} (hw : Region.wanted o (yielded ops a.tmps) = false)
    (hc : live ops.size rest cs w) (h : wpPlanL P md ops Q cs T rest (a.put o.dst undef) w) : wpPlanL P md ops Q cs T ((i, false, o) :: rest) a w := by
  unfold wpPlanL
  rw [if_neg (by rw [hw]; simp)]
  exact ⟨hc, h⟩

/-! Two operations of which either may come first -/
def planOkE (md : Region.Mode) (ops : Array Oper) (ks : List Nat) (e : Array Bool → Bool) : List (Nat × Bool) → Array Bool → Bool
  | [], listed => e listed
  | (i, true) :: rest, listed => (Region.ready md ops listed).contains i && Region.free md ops listed i && !ks.contains i && planOkE md ops ks e rest (listed.setIfInBounds i true)
  | (i, false) :: rest, listed => decide (Region.ready md ops listed = [i]) && planOkE md ops ks e rest (listed.setIfInBounds i true)

theorem wpAnyU_weaken {cs' : Conds} (h : ∀ listed w, Until cs' listed w → Until cs listed w) : ∀ (n : Nat) (listed : Array Bool) (a : Act) (w : World), wpAnyU P md ops Q cs' n listed a w → wpAnyU P md ops Q cs n listed a w
  | 0, _, _, _, k => k
  | n + 1, _, _, _, k => ⟨k.1, fun i hi => wpOp_mono (fun a' w' h' => ⟨h _ _ h'.1, wpAnyU_weaken h n _ a' w' h'.2⟩) (k.2 i hi)⟩

theorem wpAnyU_planE {e : Array Bool → Bool} {n : Nat} (hsel : Region.noSelect ops = true) (hQ : ∀ c a d v w, Q (.panic c) (Act.put a d v) w → Q (.panic c) a w) (hcs : ∀ c ∈ cs, ops.size ≤ c.1)
    (hEnd : ∀ listed a w, e listed = true → Closed md ops listed → Until cs listed w → T a w → wpAnyU P md ops Q cs n listed a w) :
    ∀ (plan : List (Nat × Bool)) (listed : Array Bool) (a : Act) (w : World), Closed md ops listed → planOkE md ops (cs.map (·.1)) e plan listed = true → Until cs listed w →
      wpPlan P md ops Q cs T plan a w → wpAnyU P md ops Q cs (plan.length + n) listed a w
  | [], listed, a, w, cl, hp, hU, h => by
    rw [List.length_nil, Nat.zero_add]
    exact hEnd listed a w hp cl hU h
  | (i, true) :: rest, listed, a, w, cl, hp, hU, h => by
    simp only [planOkE, Bool.and_eq_true, Bool.not_eq_true', List.contains_eq_mem, decide_eq_true_eq, decide_eq_false_iff_not] at hp
    obtain ⟨⟨⟨hr, hf⟩, hk⟩, hp⟩ := hp
    unfold wpPlan at h
    split at h
    · exact h.elim
    · rename_i o ho
      obtain ⟨v, hy, h⟩ := h
      have hci : ∀ c ∈ cs, c.1 ≠ i := fun c hc e => hk (by rw [← e]; exact List.mem_map_of_mem hc)
      have hU' : Until cs (listed.setIfInBounds i true) w := fun c hc hl => hU c hc (by rwa [getD_set_ne false (fun e => hci c hc e.symm)] at hl)
      rw [List.length_cons, Nat.succ_add]
      exact wpAnyU_first ho (Region.noSelect_spec hsel) (fun c a w => hQ c a _ _ w) hci (rest.length + n) listed a w cl (Region.free_spec ho hf) hr hy hU
        (wpAnyU_planE hsel hQ hcs hEnd rest _ _ w (cl.set hr) hp hU' h)
  | (i, false) :: rest, listed, a, w, cl, hp, hU, h => by
    simp only [planOkE, Bool.and_eq_true, decide_eq_true_eq] at hp
    obtain ⟨hr, hp⟩ := hp
    unfold wpPlan at h
    split at h
    · exact h.elim
    · rename_i o ho
      rw [List.length_cons, Nat.succ_add]
      refine ⟨fun h0 => (by rw [hr] at h0; cases h0), fun j hj => ?_⟩
      have hji : j = i := by rw [hr] at hj; simpa using hj
      subst hji
      simp only [Bool.false_eq_true, if_false] at h
      refine wpOp_mono (fun a' w' h' => ?_) h
      have hU' : Until cs (listed.setIfInBounds j true) w' := fun c hc hl => h'.1 c hc (by simp [hcs c hc])
      exact ⟨hU', wpAnyU_planE hsel hQ hcs hEnd rest _ _ w' (cl.set hj) hp hU' h'.2⟩

/-- A branch: an operation, and the plan behind it, with what holds of the world from there on. -/
def wpBranch (P : Program) (md : Region.Mode) (l : List Oper) (Q : Exit → Act → World → Prop) (p : World → Prop) (i : Nat) (plan : List (Nat × Bool)) (a : Act) (w : World) : Prop :=
  ∃ o, l[i]? = some o ∧ Region.wanted o (yielded l.toArray a.tmps) = true ∧
    o.wp P a w (fun a' w' => ∃ p' : World → Prop, p' w' ∧ (∀ w, p' w → p w) ∧ wpPlanL P md l.toArray Q [(l.length, p')] (Q .normal) (planOps l plan) a' w') Q

def forkB (md : Region.Mode) (l : List Oper) (i j : Nat) (planA planB : List (Nat × Bool)) (listed : Array Bool) : Bool :=
  decide (Region.ready md l.toArray listed = [i, j]) && planOk md l.toArray [l.length] planA (listed.setIfInBounds i true) && planOk md l.toArray [l.length] planB (listed.setIfInBounds j true)
    && decide (planA.length = planB.length) && ((List.range l.length).all fun k => (listed.setIfInBounds i true).getD k false || planA.any fun x => x.1 == k) && ((List.range l.length).all fun k => (listed.setIfInBounds j true).getD k false || planB.any fun x => x.1 == k)
    && (planA.all fun x => decide (x.1 < l.length)) && (planB.all fun x => decide (x.1 < l.length))

theorem branch_ok {l : List Oper} {p : World → Prop} {i : Nat} {plan : List (Nat × Bool)} {listed : Array Bool} {a : Act} {w : World} (hsel : Region.noSelect l.toArray = true)
    (hQ : ∀ c a d v w, Q (.panic c) (Act.put a d v) w → Q (.panic c) a w) (cl : Closed md l.toArray (listed.setIfInBounds i true)) (hp : planOk md l.toArray [l.length] plan (listed.setIfInBounds i true) = true)
    (hall : ((List.range l.length).all fun k => (listed.setIfInBounds i true).getD k false || plan.any fun x => x.1 == k) = true) (hb : (plan.all fun x => decide (x.1 < l.length)) = true)
    (h : wpBranch P md l Q p i plan a w) : wpOp P l.toArray Q i (fun a' w' => Until [(l.length, p)] (listed.setIfInBounds i true) w' ∧ wpAnyU P md l.toArray Q [(l.length, p)] plan.length (listed.setIfInBounds i true) a' w') a w := by
  obtain ⟨o, ho, hw, h⟩ := h
  have ho' : l.toArray[i]? = some o := by simp [ho]
  unfold wpOp
  simp only [ho']
  rw [if_pos hw]
  refine .inl (Oper.wp_mono (fun a' w' h' => ?_) h)
  obtain ⟨p', h1, h2, h3⟩ := h'
  have hU : Until [(l.length, p')] (listed.setIfInBounds i true) w' := fun c hc _ => by
    obtain rfl := List.mem_singleton.1 hc
    exact h1
  have wk : ∀ (ls : Array Bool) w, Until [(l.length, p')] ls w → Until [(l.length, p)] ls w := fun ls w k c hc hl => by
    obtain rfl := List.mem_singleton.1 hc
    exact h2 w (k _ (List.mem_singleton.2 rfl) hl)
  refine ⟨wk _ _ hU, wpAnyU_weaken wk _ _ _ _ ?_⟩
  refine wpAnyU_plan hsel hQ plan _ a' w' cl ⟨cl.1, fun j hj => ?_⟩ hp hU (plan_of_L plan a' w' hb h3)
  rcases Nat.lt_or_ge j l.length with h' | h'
  · have := List.all_eq_true.1 hall j (List.mem_range.2 h')
    rw [hj, Bool.false_or] at this
    exact .inl this
  · right; simpa using h'

/-- THE LAW: a region that draws, walked along a plan up to two operations of which either may come first. -/
theorem wp_region_fork {id : Nat} {a : Act} {w : World} {l : List Oper} (plan : List (Nat × Bool)) (i j : Nat) (planA planB : List (Nat × Bool)) (p : World → Prop) (hm : P.follows .mixedOrders = true)
    (hB : (Region.noSelect l.toArray && decide (plan.length + (planA.length + 1) = l.length) && planOkE .any l.toArray [l.length] (forkB .any l i j planA planB) plan (Array.replicate l.length false)
      && plan.all fun x => decide (x.1 < l.length)) = true)
    (hQ : ∀ c a d v w, Q (.panic c) (Act.put a d v) w → Q (.panic c) a w)
    (hU : p w.drew) (h : wpPlanL P .any l.toArray Q [(l.length, p)] (fun a w => wpBranch P .any l Q p i planA a w ∧ wpBranch P .any l Q p j planB a w) (planOps l plan) a w.drew) :
    (Code.region id l.toArray true).wp P Q a w := by
  simp only [Bool.and_eq_true, decide_eq_true_eq] at hB
  obtain ⟨⟨⟨hsel, hlen⟩, hp⟩, hb⟩ := hB
  have hs : l.toArray.size = l.length := by simp
  refine wp_region_any hm ?_
  have := wpAnyU_planE (P := P) (Q := Q) (md := .any) (cs := [(l.length, p)]) (T := fun a w => wpBranch P .any l Q p i planA a w ∧ wpBranch P .any l Q p j planB a w) (e := forkB .any l i j planA planB) (n := planA.length + 1) hsel hQ
    (fun c hc => by obtain rfl := List.mem_singleton.1 hc; simp)
    (fun listed a w he cl hU hT => by
      simp only [forkB, Bool.and_eq_true, decide_eq_true_eq] at he
      obtain ⟨⟨⟨⟨⟨⟨⟨hr, pa⟩, pb⟩, hl⟩, aa⟩, ab⟩, ba⟩, bb⟩ := he
      refine ⟨fun h0 => (by rw [hr] at h0; cases h0), fun k hk => ?_⟩
      have hk2 := hk
      rw [hr] at hk2
      rcases List.mem_cons.1 hk2 with rfl | hk2
      · exact branch_ok hsel hQ (cl.set hk) pa aa ba hT.1
      · obtain rfl := List.mem_singleton.1 hk2
        rw [hl]
        exact branch_ok hsel hQ (cl.set hk) pb ab bb hT.2)
    plan (Array.replicate l.length false) a w.drew (by rw [← hs]; exact Closed.start) hp (fun c hc _ => by obtain rfl := List.mem_singleton.1 hc; exact hU) (plan_of_L plan a w.drew hb h)
  rw [hlen] at this
  rw [hs]
  exact wpAny_of_U _ _ _ _ this
end
end PH
