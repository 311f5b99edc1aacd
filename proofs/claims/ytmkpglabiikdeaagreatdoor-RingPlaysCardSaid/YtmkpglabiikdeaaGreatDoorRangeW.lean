/-
  A region that draws, in the body of a function that holds a range over a function (outside of its rounds).
-/
import Derived.Test.YtmkpglabiikdeaaGreatDoorRange
namespace PH
open Go Go.RowKit
section
variable {n : Nat} {P : Program} {ops : Array Oper} {Q : Exit → Act → World → Prop}
theorem wpOpIn_ofW {i : Nat} {K K' : Act → World → Prop} {a : Act} {w : World} (_hnd : noDefer ops = true) (hout : ¬ LetsOut Q) (hK : ∀ a w, K a w → K' a w)
    (h : wpOp P ops Q i K a w) : wpOpIn Fence.wide n P ops Q i K' a w := by
  unfold wpOp at h
  unfold wpOpIn
  split
  · rename_i ho
    simp only [ho] at h
    exact hK _ _ h
  · rename_i o ho
    simp only [ho] at h
    split
    · rename_i hw
      simp only [hw, if_true] at h
      rcases h with h | ⟨_, h⟩
      · refine ⟨fun _ _ => trivial, ?_⟩
        show Oper.uponIn Fence.wide n P o a K' Q ((o.semAt none a.eval).run P w)
        rw [show o.semAt none a.eval = execOp a.eval o from rfl]
        unfold Oper.wp at h
        generalize (execOp a.eval o).run P w = r at *
        cases r with
        | ok x w' =>
          cases x <;> simp only [Oper.upon] at h <;> simp only [Oper.uponIn]
          case value u => exact hK _ _ h
          case skip => exact hK _ _ h
          case defer d => exact hK _ _ h
          case enter f args =>
            refine ⟨fun h => by simp [Fence.wide] at h, (callsIn_wide.2 (h.mono fun e w'' he => ?_))⟩
            cases e <;> first | exact hK _ _ he | exact he
          case row row args =>
            refine ⟨fun h => by simp [Fence.wide] at h, ?_⟩
            exact fun c cs _ => let ⟨v, w2, r, s⟩ := h c cs; ⟨v, w2, hK _ _ r, stepsIn_wide.2 s⟩
        | halt x w' => cases x <;> simp only [Oper.upon] at h <;> simp only [Oper.uponIn] <;> exact h
      · exact absurd h hout
    · rename_i hw
      simp only [hw, Bool.false_eq_true, if_false] at h
      exact ⟨fun _ _ => trivial, hK _ _ h⟩
theorem wpAnyIn_ofW (hnd : noDefer ops = true) (hout : ¬ LetsOut Q) : ∀ (fuel : Nat) (listed : Array Bool) (a : Act) (w : World), wpAny P .any ops Q fuel listed a w → wpAnyIn Fence.wide n P .any ops Q fuel listed a w
  | 0, _, _, _, h => h
  | fuel + 1, _, _, _, h => ⟨h.1, fun i hi => wpOpIn_ofW hnd hout (fun a w => wpAnyIn_ofW hnd hout fuel _ a w) (h.2 i hi)⟩
/-- THE LAW of regions that draw, within a round. -/
theorem wpIn_region_planW {id : Nat} {a : Act} {w : World} {ol : List Oper} (plan : List (Nat × Bool)) (cs : Conds) (hm : P.follows .mixedOrders = true) (hnd : noDefer ol.toArray = true) (hout : ¬ LetsOut Q)
    (hB : (Region.noSelect ol.toArray && decide (plan.length = ol.length) && (List.range ol.length).all (fun j => plan.any fun x => x.1 == j) && planOk .any ol.toArray (cs.map (·.1)) plan (Array.replicate ol.length false)
      && plan.all fun x => decide (x.1 < ol.length)) = true)
    (hQ : ∀ c a d v w, Q (.panic c) (Act.put a d v) w → Q (.panic c) a w)
    (hU : live ol.length (planOps ol plan) cs w.drew) (h : wpPlanL P .any ol.toArray Q cs (Q .normal) (planOps ol plan) a w.drew) : (Code.region id ol.toArray true).wpIn Fence.wide n P Q a w :=
  wpIn_region_any hm (wpAnyIn_ofW hnd hout _ _ _ _ (wpAny_region plan cs hB hQ hU h))
/-- A region that goes its way without a panic. -/
def onlyN (Q : Exit → Act → World → Prop) : Exit → Act → World → Prop
  | .normal, a, w => Q .normal a w
  | _, _, _ => False
theorem wpIn_region_planN {id : Nat} {a : Act} {w : World} {ol : List Oper} (plan : List (Nat × Bool)) (cs : Conds) (hm : P.follows .mixedOrders = true) (hnd : noDefer ol.toArray = true)
    (hB : (Region.noSelect ol.toArray && decide (plan.length = ol.length) && (List.range ol.length).all (fun j => plan.any fun x => x.1 == j) && planOk .any ol.toArray (cs.map (·.1)) plan (Array.replicate ol.length false)
      && plan.all fun x => decide (x.1 < ol.length)) = true)
    (hU : live ol.length (planOps ol plan) cs w.drew) (h : wpPlanL P .any ol.toArray (onlyN Q) cs (onlyN Q .normal) (planOps ol plan) a w.drew) : (Code.region id ol.toArray true).wpIn Fence.wide n P Q a w := by
  refine wpIn_mono (wpIn_region_planW plan cs hm hnd (by rintro ⟨_, _, h⟩; exact h) hB (fun _ _ _ _ _ h => h) hU h) ?_
  rintro e a w h
  cases e <;> first | exact h | exact h.elim
end
end PH

