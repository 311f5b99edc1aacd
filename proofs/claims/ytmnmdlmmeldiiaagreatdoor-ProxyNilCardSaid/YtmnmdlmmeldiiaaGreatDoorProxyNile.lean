/-
  The call goes by nothing: no function of the program starts a goroutine.
-/
import Derived.Test.YtmnmdlmmeldiiaaGreatDoorRows
import Derived.Test.YtmnmdlmmeldiiaaGreatDoorCards
import Derived.SevenTiedAt
import Derived.KernelRfl
import Derived.WalkKit
namespace Go.Proofs.YtmnmdlmmeldiiaaGreatDoor.proxyNil
set_option maxRecDepth 100000
theorem goes_none {P : Program} {c : OpenClaim} (hs : c.start = .entering) (h : (P.funcs.toList.all fun fn => !fn.goes) = true) : false = c.goesBy P := by
  have h1 : ∀ fn, fn ∈ P.funcs → fn.goes = false := fun fn hf => by
    have := List.all_eq_true.1 h fn (by simpa using hf)
    simpa using this
  have h2 : ∀ g : Nat, (P.funcs[g]?).any Func.goes = false := fun g => by
    cases hg : P.funcs[g]? with
    | none => rfl
    | some fn => exact h1 fn (Array.mem_of_getElem? hg)
  have h3 : P.funcs.any Func.goes = false := by
    rw [Array.any_eq_false]
    intro i hi
    simpa using h1 _ (Array.getElem_mem hi)
  have h4 : ∀ f, P.goes f = false := fun f => by
    unfold Program.goes
    rw [h3, Bool.and_false, Bool.or_false, List.any_eq_false]
    intro g _
    rw [h2 g]
    simp
  unfold OpenClaim.goesBy Program.goesAt Program.goesFrom
  rw [hs]
  cases P.funcNamed c.func with
  | none => rfl
  | some f => simp [h4 f]
theorem goesF : false = Rows.proxyNilRow.goesBy Tryz.pinned.checked.prog := goes_none rfl (by kernel_rfl)
end Go.Proofs.YtmnmdlmmeldiiaaGreatDoor.proxyNil
