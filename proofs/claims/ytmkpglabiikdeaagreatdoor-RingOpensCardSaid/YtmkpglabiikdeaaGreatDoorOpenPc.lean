/-
  An argument that is a piece, opened.
-/
import Derived.Test.YtmkpglabiikdeaaGreatDoorPieceBase
import Derived.OpenShut
import Derived.Laws.IdiomArrays
import Derived.ProofKit
import Derived.Deep.Slices
import Derived.Deep.Fields
namespace Go.Proofs.YtmkpglabiikdeaaGreatDoor
open Go.ChangeShapes Go.WideShapes Go.RowKit Go.Deep PH

theorem upto_wf {n : Int} (h : (Lit.int .i64 n).wf = true) : n ≤ 9223372036854775807 := by
  exact (bounds_i64 h).2
theorem okWide_array {P : Program} {w : World} {r : Reach} {base : Nat} {t e : TypeId} {n : Nat} {v : Value} (ht : P.underlying t = some (.array n e)) (h : Value.okWide P w r base t v) : ∃ cs, v = .agg cs ∧ cs.size = P.cellsOf t := by
  simp only [Value.okWide, ht] at h
  obtain ⟨cs, h1, h2, _⟩ := h
  exact ⟨cs, h1, h2⟩
section
variable {H : Type} {enc : TypeId × Value → H} {W : World}
set_option maxRecDepth 100000 in
theorem piece_open {fuel : Nat} {cs : List Value} {x : DataW H × List MemPlace} (h : DataW.trod enc Tryz.prog W 0 (fun _ => true) true fuel 23 cs = some x) : ∃ p : Pc, cs = p.cells ∧ p.seq ≤ 9223372036854775807 ∧ p.data.size ≤ maxLen := by
  obtain ⟨xs, n, _, _, hlen, hxl, hf⟩ := DataW.trod_struct Tryz.underlying23 h
  have hc5 : Tryz.prog.cellsOf 23 = 5 := by kernel_rfl
  rw [hc5] at hlen
  match cs, hlen, xs, hxl with
  | [c0, c1, c2, c3, c4], _, [y0, y1, y2, y3, y4], _ =>
    have f0 := hf 0 _ rfl
    have f1 := hf 1 _ rfl
    have f2 := hf 2 _ rfl
    have f3 := hf 3 _ rfl
    have f4 := hf 4 _ rfl
    simp only [List.getElem?_cons_zero, List.getElem?_cons_succ] at f0 f1 f2 f3 f4
    obtain ⟨n0, e0, _, _⟩ := DataW.trod_int Tryz.underlying3 f0
    obtain ⟨n1, e1, _, w1⟩ := DataW.trod_int Tryz.underlying3 f1
    obtain ⟨n2, e2, _, _⟩ := DataW.trod_int Tryz.underlying3 f2
    obtain ⟨n3, e3, _, _⟩ := DataW.trod_int Tryz.underlying3 f3
    obtain ⟨n4, e4, _, w4⟩ := DataW.trod_string Tryz.underlying9 f4
    cases e0; cases e1; cases e2; cases e3; cases e4
    exact ⟨⟨n0, n1, n2, n3, n4⟩, rfl, upto_wf w1, w4⟩
set_option maxRecDepth 100000 in
theorem two_ints {fuel : Nat} {cs : Array Value} {x : DataW H × List MemPlace} (hn : cs.size = Tryz.prog.cellsOf 38) (h : DataW.trod enc Tryz.prog W 0 (fun _ => true) true fuel 38 (Value.agg cs).cells.toList = some x) :
    ∃ n0 n1 : Int, cs = #[.int .i64 n0, .int .i64 n1] := by
  have hc : Tryz.prog.cellsOf 38 = 2 := by kernel_rfl
  rw [hc] at hn
  obtain ⟨l⟩ := cs
  simp only [Value.cells] at h
  match l, hn, h with
  | [c0, c1], _, h =>
    obtain ⟨xs, n, _, _, _, hl, hel⟩ := DataW.trod_array Tryz.underlying38 h
    have hc3 : Tryz.prog.cellsOf 3 = 1 := by kernel_rfl
    match xs, hl with
    | [y0, y1], _ =>
      have f0 := hel 0 (by omega)
      have f1 := hel 1 (by omega)
      simp only [hc3, Nat.zero_mul, Nat.one_mul, List.drop_zero, List.take_succ_cons, List.take_zero, List.drop_succ_cons, List.getElem?_cons_zero, List.getElem?_cons_succ] at f0 f1
      obtain ⟨n0, e0, _, _⟩ := DataW.trod_int Tryz.underlying3 f0
      obtain ⟨n1, e1, _, _⟩ := DataW.trod_int Tryz.underlying3 f1
      cases e0; cases e1
      exact ⟨n0, n1, rfl⟩
end
end Go.Proofs.YtmkpglabiikdeaaGreatDoor
