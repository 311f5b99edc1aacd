/-
  What a call returns whose result is a variable's whole row. Generic, no program in sight.
-/
import Derived.Laws.Rows
import Derived.Laws.ResultCell
import Derived.WalkKit
import Derived.Below
import Derived.Test.YtmnmdlmmeldiiaaGreatDoorSat
namespace PH
open Go Go.RowKit
theorem Sat.ofBelow {E w w' : World} {L : List HP} (x : Sat E w L) (h : Below w.heap.size w w') : Sat E w' L :=
  x.grow h.os h.tape h.output fun k _ hk => (h.block k (Array.getElem?_eq_some_iff.1 hk).1).trans hk
theorem post_row {P : Program} {fn : Func} {R : Ending → World → Prop} {a : Act} {w : World} {p : Tmp} {ty : TypeId} (h : fn.results = #[.cell p ty]) (g : Nat) (t : TypeId) (cs : Array Value) (fr : Nat × Nat) (d : TypeDesc)
    (hp : a.tmps.getD p undef = .pointer (some ⟨g, 0, none⟩)) (hg : w.heap[g]? = some (.cells cs t fr))
    (hu : P.underlying ty = some d) (hd : (match d with | .struct _ | .array _ _ => true | _ => false) = true) (hi : (P.info? ty).map (·.size) = some cs.size) (hds : a.defers = []) (hR : R (.returned (.agg cs)) w) : bodyPost P fn R .ret a w :=
  bodyPost_ret (results_cell_row h a.tmps w g t cs fr d hp hg hu hd hi) hds hR
theorem post_row2 {P : Program} {fn : Func} {R : Ending → World → Prop} {a : Act} {w : World} {p u : Tmp} {ty : TypeId} (h : fn.results = #[.cell p ty, .tmp u]) (g : Nat) (t : TypeId) (cs : Array Value) (fr : Nat × Nat) (d : TypeDesc)
    (hp : a.tmps.getD p undef = .pointer (some ⟨g, 0, none⟩)) (hg : w.heap[g]? = some (.cells cs t fr))
    (hu : P.underlying ty = some d) (hd : (match d with | .struct _ | .array _ _ => true | _ => false) = true) (hi : (P.info? ty).map (·.size) = some cs.size) (hds : a.defers = []) (hR : R (.returned (.tuple #[.agg cs, a.tmps.getD u undef])) w) : bodyPost P fn R .ret a w :=
  bodyPost_ret (v := .tuple #[.agg cs, a.tmps.getD u undef]) (by
    rw [results_cell_tmp h, hp]
    have e : (asAddr (.pointer (some ⟨g, 0, none⟩))).run P w = .ok ⟨g, 0, none⟩ w := rfl
    rw [e]
    simp only [Result.andThen, run_loadVar_row w g t ty cs fr d hg hu hd hi]) hds hR
end PH
