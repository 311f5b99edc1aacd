/-
  Layer 19: of no disk there is no store; the law StoreNil, walked.
-/
import Derived.Laws.Rows
import Derived.Test.YtnpkpbgfnfkadaaGreatDoorStoreN
namespace PH
open Go Go.RowKit
theorem Sat.ofBelow {E w w' : World} {L : List HP} (x : Sat E w L) (h : Below w.heap.size w w') : Sat E w' L :=
  x.grow h.os h.tape h.output fun k _ hk => (h.block k (Array.getElem?_eq_some_iff.1 hk).1).trans hk
end PH
namespace Go.Proofs.YtnpkpbgfnfkadaaGreatDoor
open Go.RowKit PH

theorem post_row {P : Program} {fn : Func} {R : Ending → World → Prop} {a : Act} {w : World} {p : Tmp} {ty : TypeId} (h : fn.results = #[.cell p ty]) (g : Nat) (t : TypeId) (cs : Array Value) (fr : Nat × Nat) (d : TypeDesc)
    (hp : a.tmps.getD p undef = .pointer (some ⟨g, 0, none⟩)) (hg : w.heap[g]? = some (.cells cs t fr))
    (hu : P.underlying ty = some d) (hd : (match d with | .struct _ | .array _ _ => true | _ => false) = true) (hi : (P.info? ty).map (·.size) = some cs.size) (hds : a.defers = []) (hR : R (.returned (.agg cs)) w) : bodyPost P fn R .ret a w :=
  bodyPost_ret (results_cell_row h a.tmps w g t cs fr d hp hg hu hd hi) hds hR
abbrev cfgV : Value := .agg #[.int .i64 4, .int .i64 4, .int .i64 4, .int .i64 3, .int .i64 16]
abbrev cacheV : Value := .agg #[.slice none 0 0, .slice none 0 0, .slice none 0 0, .slice none 0 0]
theorem small_ok {E W : World} {L : List HP} (x : Sat E W L) : Calls Tryz.prog 6 #[] W fun e w' => e = .returned cfgV ∧ Sat E w' L := by
  have HX := Lib.hid x
  clear x
  go_enter Tryz.func6, Tryz.ntmps6
  go_wp2
  exact post_row rfl W.heap.size 29 _ (0, 0) _ rfl (heap_alloc_new W _) Tryz.underlying29 rfl (by kernel_rfl) rfl ⟨rfl, (HX.out.alloc _).tail⟩
theorem cache_nil {E W : World} {L : List HP} (x : Sat E W L) : Calls Tryz.prog 8 #[.pointer none] W fun e w' => e = .returned cacheV ∧ Sat E w' L := by
  have HX := Lib.hid x
  clear x
  go_enter Tryz.func8, Tryz.ntmps8
  go_wp2
  (try simp only [Exit.inBlock, Exit.then])
  exact post_row rfl W.heap.size 38 _ (0, 0) _ rfl (heap_alloc_new W _) Tryz.underlying38 rfl (by kernel_rfl) rfl ⟨rfl, (HX.out.alloc _).tail⟩
theorem fit_nil {E W : World} {L : List HP} (x : Sat E W L) : Calls Tryz.prog 19 #[.pointer none, cfgV] W fun e w' => e = .returned (.int .i64 1) ∧ Sat E w' L := by
  have HX := Lib.hid x
  clear x
  go_enter Tryz.func19, Tryz.ntmps19
  go_wp2_with (go_at_call 65; refine (size_nil _).mono ?_; rintro e w2 ⟨rfl, rfl⟩)
  go_ret
  exact ⟨rfl, (HX.out.alloc _).tail⟩
set_option maxRecDepth 100000 in
theorem open_nil {E W : World} {L : List HP} (x : Sat E W L) : Calls Tryz.prog 5 #[.pointer none, cfgV] W fun e w' => e = .returned (.tuple #[.pointer none, .int .i64 1]) ∧ Sat E w' L := by
  have HX := Lib.hid x
  clear x
  go_enter Tryz.func5, Tryz.ntmps5
  go_wp2_with (go_at_call 19; refine (fit_nil (HX.out.alloc _)).mono ?_; rintro e w2 ⟨rfl, hx2⟩; have HX2 := Lib.hid hx2; clear hx2)
  go_ret2
  exact ⟨rfl, HX2.out.tail⟩
set_option maxRecDepth 100000 in
theorem format_nil {E W : World} {L : List HP} (x : Sat E W L) : Calls Tryz.prog 9 #[.pointer none, cfgV] W fun e w' => e = .returned (.int .i64 1) ∧ Sat E w' L := by
  have HX := Lib.hid x
  clear x
  go_enter Tryz.func9, Tryz.ntmps9
  go_wp2_with (go_at_call 19; refine (fit_nil ((HX.out.alloc _).alloc _)).mono ?_; rintro e w2 ⟨rfl, hx2⟩; have HX2 := Lib.hid hx2; clear hx2)
  go_ret
  exact ⟨rfl, HX2.out.tail.tail⟩
end Go.Proofs.YtnpkpbgfnfkadaaGreatDoor
