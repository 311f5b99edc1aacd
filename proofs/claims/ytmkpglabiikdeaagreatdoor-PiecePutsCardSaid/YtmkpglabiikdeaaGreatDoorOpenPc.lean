/-
  An argument that is a piece, opened.
-/
import Derived.Test.YtmkpglabiikdeaaGreatDoorPieceBase
import Derived.OpenShut
import Derived.ProofKit
import Derived.Deep.Slices
import Derived.Deep.Fields
namespace Go.Proofs.YtmkpglabiikdeaaGreatDoor
open Go.ChangeShapes Go.WideShapes Go.RowKit Go.Deep PH

theorem upto_wf {n : Int} (h : (Lit.int .i64 n).wf = true) : n ≤ 9223372036854775807 := by
  exact (bounds_i64 h).2
section
variable {H : Type} {enc : TypeId × Value → H} {W : World}
set_option maxRecDepth 100000 in
theorem piece_open {fuel : Nat} {cs : List Value} {x : DataW H × List MemPlace} (h : DataW.trod enc Tryz.prog W 0 (fun _ => true) true fuel 23 cs = some x) : ∃ p : Pc, cs = p.cells ∧ p.seq ≤ 9223372036854775807 ∧ p.data.size ≤ maxLen := by
  obtain ⟨xs, n, _, _, hlen, hxl, hf⟩ := DataW.trod_struct Tryz.underlying23 h
  have hc5 : Tryz.prog.cellsOf 23 = 5 := by kernel_rfl
  rw [hc5] at hlen
  match cs, hlen, xs, hxl with
  | [c0, c1, c2, c3, c4], _, [y0, y1, y2, y3, y4], _ =>
    have f0 := hf 0 _ rfl
    have f1 := hf 1 _ rfl
    have f2 := hf 2 _ rfl
    have f3 := hf 3 _ rfl
    have f4 := hf 4 _ rfl
    simp only [List.getElem?_cons_zero, List.getElem?_cons_succ] at f0 f1 f2 f3 f4
    obtain ⟨n0, e0, _, _⟩ := DataW.trod_int Tryz.underlying3 f0
    obtain ⟨n1, e1, _, w1⟩ := DataW.trod_int Tryz.underlying3 f1
    obtain ⟨n2, e2, _, _⟩ := DataW.trod_int Tryz.underlying3 f2
    obtain ⟨n3, e3, _, _⟩ := DataW.trod_int Tryz.underlying3 f3
    obtain ⟨n4, e4, _, w4⟩ := DataW.trod_string Tryz.underlying9 f4
    cases e0; cases e1; cases e2; cases e3; cases e4
    exact ⟨⟨n0, n1, n2, n3, n4⟩, rfl, upto_wf w1, w4⟩
end
end Go.Proofs.YtmkpglabiikdeaaGreatDoor
