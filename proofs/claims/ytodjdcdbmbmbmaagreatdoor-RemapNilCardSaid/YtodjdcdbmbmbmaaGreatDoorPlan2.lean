/-
  A region that draws, with a second fork behind the second branch of the first. Generic, no program in sight.
-/
import Derived.Test.YtodjdcdbmbmbmaaGreatDoorPlan
namespace PH
open Go
section
variable {P : Program} {Q : Exit → Act → World → Prop} {md : Region.Mode}
/-- A branch that ends in a fork. -/
def wpBranchF (P : Program) (md : Region.Mode) (l : List Oper) (Q : Exit → Act → World → Prop) (p : World → Prop) (j : Nat) (plan : List (Nat × Bool)) (i2 j2 : Nat) (planA2 planB2 : List (Nat × Bool)) (a : Act) (w : World) : Prop :=
  ∃ o, l[j]? = some o ∧ Region.wanted o (yielded l.toArray a.tmps) = true ∧
    o.wp P a w (fun a' w' => p w' ∧ wpPlanL P md l.toArray Q [(l.length, p)] (fun a w => wpBranch P md l Q p i2 planA2 a w ∧ wpBranch P md l Q p j2 planB2 a w) (planOps l plan) a' w') Q
theorem fork_end {l : List Oper} {p : World → Prop} {i j : Nat} {planA planB : List (Nat × Bool)} (hsel : Region.noSelect l.toArray = true) (hQ : ∀ c a d v w, Q (.panic c) (Act.put a d v) w → Q (.panic c) a w)
    (listed : Array Bool) (a : Act) (w : World) (he : forkB md l i j planA planB listed = true) (cl : Closed md l.toArray listed) (hT : wpBranch P md l Q p i planA a w ∧ wpBranch P md l Q p j planB a w) :
    wpAnyU P md l.toArray Q [(l.length, p)] (planA.length + 1) listed a w := by
  simp only [forkB, Bool.and_eq_true, decide_eq_true_eq] at he
  obtain ⟨⟨⟨⟨⟨⟨⟨hr, pa⟩, pb⟩, hl⟩, aa⟩, ab⟩, ba⟩, bb⟩ := he
  refine ⟨fun h0 => (by rw [hr] at h0; cases h0), fun k hk => ?_⟩
  have hk2 := hk
  rw [hr] at hk2
  rcases List.mem_cons.1 hk2 with rfl | hk2
  · exact branch_ok hsel hQ (cl.set hk) pa aa ba hT.1
  · obtain rfl := List.mem_singleton.1 hk2
    rw [hl]
    exact branch_ok hsel hQ (cl.set hk) pb ab bb hT.2
def fork2B (md : Region.Mode) (l : List Oper) (i j : Nat) (planA planB : List (Nat × Bool)) (i2 j2 : Nat) (planA2 planB2 : List (Nat × Bool)) (listed : Array Bool) : Bool :=
  decide (Region.ready md l.toArray listed = [i, j]) && planOk md l.toArray [l.length] planA (listed.setIfInBounds i true) && planOkE md l.toArray [l.length] (forkB md l i2 j2 planA2 planB2) planB (listed.setIfInBounds j true)
    && decide (planA.length = planB.length + (planA2.length + 1)) && ((List.range l.length).all fun k => (listed.setIfInBounds i true).getD k false || planA.any fun x => x.1 == k)
    && (planA.all fun x => decide (x.1 < l.length)) && (planB.all fun x => decide (x.1 < l.length))
theorem branchF_ok {l : List Oper} {p : World → Prop} {j : Nat} {plan : List (Nat × Bool)} {i2 j2 : Nat} {planA2 planB2 : List (Nat × Bool)} {listed : Array Bool} {a : Act} {w : World} (hsel : Region.noSelect l.toArray = true)
    (hQ : ∀ c a d v w, Q (.panic c) (Act.put a d v) w → Q (.panic c) a w) (cl : Closed md l.toArray (listed.setIfInBounds j true)) (hp : planOkE md l.toArray [l.length] (forkB md l i2 j2 planA2 planB2) plan (listed.setIfInBounds j true) = true)
    (hb : (plan.all fun x => decide (x.1 < l.length)) = true)
    (h : wpBranchF P md l Q p j plan i2 j2 planA2 planB2 a w) : wpOp P l.toArray Q j (fun a' w' => Until [(l.length, p)] (listed.setIfInBounds j true) w' ∧ wpAnyU P md l.toArray Q [(l.length, p)] (plan.length + (planA2.length + 1)) (listed.setIfInBounds j true) a' w') a w := by
  obtain ⟨o, ho, hw, h⟩ := h
  have ho' : l.toArray[j]? = some o := by simp [ho]
  unfold wpOp
  simp only [ho']
  rw [if_pos hw]
  refine .inl (Oper.wp_mono (fun a' w' h' => ?_) h)
  obtain ⟨h1, h3⟩ := h'
  have hU : Until [(l.length, p)] (listed.setIfInBounds j true) w' := fun c hc _ => by
    obtain rfl := List.mem_singleton.1 hc
    exact h1
  refine ⟨hU, ?_⟩
  exact wpAnyU_planE hsel hQ (fun c hc => by obtain rfl := List.mem_singleton.1 hc; simp) (fun ls a w he cl _ hT => fork_end hsel hQ ls a w he cl hT) plan _ a' w' cl hp hU (plan_of_L plan a' w' hb h3)
/-- THE LAW: two operations of which either may come first; behind the second, two again. -/
theorem wp_region_fork2 {id : Nat} {a : Act} {w : World} {l : List Oper} (plan : List (Nat × Bool)) (i j : Nat) (planA planB : List (Nat × Bool)) (i2 j2 : Nat) (planA2 planB2 : List (Nat × Bool)) (p : World → Prop) (hm : P.follows .mixedOrders = true)
    (hB : (Region.noSelect l.toArray && decide (plan.length + (planA.length + 1) = l.length) && planOkE .any l.toArray [l.length] (fork2B .any l i j planA planB i2 j2 planA2 planB2) plan (Array.replicate l.length false)
      && plan.all fun x => decide (x.1 < l.length)) = true)
    (hQ : ∀ c a d v w, Q (.panic c) (Act.put a d v) w → Q (.panic c) a w)
    (hU : p w.drew) (h : wpPlanL P .any l.toArray Q [(l.length, p)] (fun a w => wpBranch P .any l Q p i planA a w ∧ wpBranchF P .any l Q p j planB i2 j2 planA2 planB2 a w) (planOps l plan) a w.drew) :
    (Code.region id l.toArray true).wp P Q a w := by
  simp only [Bool.and_eq_true, decide_eq_true_eq] at hB
  obtain ⟨⟨⟨hsel, hlen⟩, hp⟩, hb⟩ := hB
  have hs : l.toArray.size = l.length := by simp
  refine wp_region_any hm ?_
  have := wpAnyU_planE (P := P) (Q := Q) (md := .any) (cs := [(l.length, p)]) (T := fun a w => wpBranch P .any l Q p i planA a w ∧ wpBranchF P .any l Q p j planB i2 j2 planA2 planB2 a w) (e := fork2B .any l i j planA planB i2 j2 planA2 planB2) (n := planA.length + 1) hsel hQ
    (fun c hc => by obtain rfl := List.mem_singleton.1 hc; simp)
    (fun listed a w he cl hU hT => by
      simp only [fork2B, Bool.and_eq_true, decide_eq_true_eq] at he
      obtain ⟨⟨⟨⟨⟨⟨hr, pa⟩, pb⟩, hl⟩, aa⟩, ba⟩, bb⟩ := he
      refine ⟨fun h0 => (by rw [hr] at h0; cases h0), fun k hk => ?_⟩
      have hk2 := hk
      rw [hr] at hk2
      rcases List.mem_cons.1 hk2 with rfl | hk2
      · exact branch_ok hsel hQ (cl.set hk) pa aa ba hT.1
      · obtain rfl := List.mem_singleton.1 hk2
        rw [hl]
        exact branchF_ok hsel hQ (cl.set hk) pb bb hT.2)
    plan (Array.replicate l.length false) a w.drew (by rw [← hs]; exact Closed.start) hp (fun c hc _ => by obtain rfl := List.mem_singleton.1 hc; exact hU) (plan_of_L plan a w.drew hb h)
  rw [hlen] at this
  rw [hs]
  exact wpAny_of_U _ _ _ _ this
end
end PH
