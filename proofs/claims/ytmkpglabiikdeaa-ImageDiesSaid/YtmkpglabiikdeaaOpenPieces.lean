/-
  An argument that is a slice of pieces, opened to the list that its cells read as.
-/
import Derived.Test.YtmkpglabiikdeaaPieceBase
import Derived.ProofKit
import Derived.Deep.Slices
import Derived.Deep.Fields
namespace Go.Proofs.Ytmkpglabiikdeaa
open Go.ChangeShapes Go.WideShapes Go.RowKit Go.Deep PH

theorem add_plain (b off k : Nat) : (⟨b, off, none⟩ : Addr).add k = ⟨b, off + k, none⟩ := by unfold Addr.add; split <;> simp_all
theorem pcs_length : ∀ l : List Pc, (pcs l).length = l.length * 5
  | [] => rfl
  | p :: l => by
    have := pcs_length l
    unfold pcs at *
    rw [List.flatMap_cons, List.length_append, this, List.length_cons, Nat.succ_mul]
    show 5 + _ = _
    omega

section
variable {H : Type} {enc : TypeId × Value → H} {W : World}

set_option maxRecDepth 100000 in
theorem piece_cells {fuel : Nat} {cs : List Value} {x : DataW H × List MemPlace} (h : DataW.trod enc Try.prog W 0 (fun _ => true) true fuel 39 cs = some x) : ∃ p : Pc, cs = p.cells := by
  obtain ⟨xs, n, _, _, hlen, hxl, hf⟩ := DataW.trod_struct Try.underlying39 h
  have hc5 : Try.prog.cellsOf 39 = 5 := by kernel_rfl
  rw [hc5] at hlen
  match cs, hlen, xs, hxl with
  | [c0, c1, c2, c3, c4], _, [y0, y1, y2, y3, y4], _ =>
    have f0 := hf 0 _ rfl
    have f1 := hf 1 _ rfl
    have f2 := hf 2 _ rfl
    have f3 := hf 3 _ rfl
    have f4 := hf 4 _ rfl
    simp only [List.getElem?_cons_zero, List.getElem?_cons_succ] at f0 f1 f2 f3 f4
    obtain ⟨n0, e0, _, _⟩ := DataW.trod_int Try.underlying3 f0
    obtain ⟨n1, e1, _, _⟩ := DataW.trod_int Try.underlying3 f1
    obtain ⟨n2, e2, _, _⟩ := DataW.trod_int Try.underlying3 f2
    obtain ⟨n3, e3, _, _⟩ := DataW.trod_int Try.underlying3 f3
    obtain ⟨n4, e4, _, _⟩ := DataW.trod_string Try.underlying9 f4
    cases e0; cases e1; cases e2; cases e3; cases e4
    exact ⟨⟨n0, n1, n2, n3, n4⟩, rfl⟩

set_option maxRecDepth 100000 in
theorem open_pieces {fuel len cap : Nat} {a : Option Addr} {x : DataW H × List MemPlace} (h : DataW.trod enc Try.prog W 0 (fun _ => true) true fuel 23 [.slice a len cap] = some x) :
    ∃ l : List Pc, l.length = len ∧ Sees W a (pcs l) ∧ len ≤ maxLen := by
  have hc5 : Try.prog.cellsOf 39 = 5 := by kernel_rfl
  rcases open_slice Try.underlying23 h with ⟨hcs, _⟩ | ⟨a0, len', cap', m, n, D, Pl, hcs, _, hl, hm, hmm, _, hel⟩
  · cases hcs
    exact ⟨[], rfl, fun j u hj => by simp [pcs] at hj, by unfold maxLen; omega⟩
  · cases hcs
    simp only [if_true] at hmm
    subst hmm
    rw [hc5] at hel
    have hx : ∀ i, i < len → ∃ p : Pc, ∀ j u, p.cells[j]? = some u → W.cell? ((a0.add (i * 5)).add j) = some u := by
      intro i hi
      obtain ⟨cs', hc0, ht0⟩ := hel i (by omega)
      obtain ⟨p, rfl⟩ := piece_cells ht0
      obtain ⟨_, _, hcell⟩ := World.cells?_some hc0
      refine ⟨p, fun j u hj => ?_⟩
      have hj5 : j < 5 := (List.getElem?_eq_some_iff.1 hj).1
      rw [hcell j hj5, hj]
    obtain ⟨f, hf⟩ : ∃ f : Nat → Pc, ∀ i, i < len → ∀ j u, (f i).cells[j]? = some u → W.cell? ((a0.add (i * 5)).add j) = some u := by
      classical
      refine ⟨fun i => if hi : i < len then (hx i hi).choose else ⟨0, 0, 0, 0, ByteArray.empty⟩, fun i hi => ?_⟩
      simp only [dif_pos hi]
      exact (hx i hi).choose_spec
    refine ⟨(List.range len).map f, by simp, ?_, Nat.le_trans hl hm⟩
    intro j u hj
    have hjl : j < len * 5 := by
      have := (List.getElem?_eq_some_iff.1 hj).1
      rw [pcs_length] at this
      simpa using this
    have hi : j / 5 < len := by omega
    have e : j / 5 * 5 + j % 5 = j := by omega
    have h1 := flat5 Pc.cells 5 (fun _ => rfl) ((List.range len).map f) (j / 5) (j % 5) (f (j / 5)) (by simp [hi]) (by omega)
    rw [e] at h1
    have h2 := hf (j / 5) hi (j % 5) u (by rw [← h1]; exact hj)
    obtain ⟨b, off, spot⟩ := a0
    obtain rfl : spot = none := by simpa [Addr.add] using World.cell?_spot (hf 0 (by omega) 0 (.int .i64 (f 0).epoch) rfl)
    refine ⟨b, off, rfl, ?_⟩
    rw [add_plain, add_plain, Nat.add_assoc, e] at h2
    exact h2
end
end Go.Proofs.Ytmkpglabiikdeaa
