/-
  Arguments that are structs, opened: the cells that were read, and what is known of each.
-/
import Derived.Test.YtjmfclhilmmamaaGreatDoorKeysL
import Derived.OpenShut
import Derived.Laws.IdiomArrays
import Derived.ProofKit
import Derived.Deep.Slices
import Derived.Deep.Fields
namespace PH
open Go Go.RowKit Go.Deep
theorem cutL {α : Type} {cs rest : List α} (o k o1 : Nat) (h : o + k = o1) (r : cs.drop o1 = rest) : cs.drop o = (cs.drop o).take k ++ rest := by
  subst h
  rw [← r, ← List.drop_drop, List.take_append_drop]
theorem addr_add (a : Addr) (m n : Nat) : (a.add m).add n = a.add (m + n) := by
  unfold Addr.add
  by_cases hm : m = 0 <;> by_cases hn : n = 0 <;> simp [hm, hn, Nat.add_assoc]
/-- The cells of a slice that was read. -/
theorem slice_cells {H : Type} {enc : TypeId × Value → H} {P : Program} {W : World} {t e : TypeId} {N fuel : Nat} {a : Option Addr} {len cap : Nat} {x : DataW H × List MemPlace} (ht : P.underlying t = some (.slice e)) (hN : P.cellsOf e = N) (h0 : 0 < N)
    (hel : ∀ fuel cs y, DataW.trod enc P W 0 (fun _ => true) true fuel e cs = some y → ∀ u ∈ cs, u.oneCell' = true) (h : DataW.trod enc P W 0 (fun _ => true) true fuel t [.slice a len cap] = some x) :
    (a = none ∧ len = 0 ∧ cap = 0) ∨ ∃ (a0 : Addr) (news : List Value), a = some a0 ∧ news.length = len * N ∧ (∀ (j : Nat) u, news[j]? = some u → W.cell? (a0.add j) = some u) ∧ (∀ u ∈ news, u.oneCell' = true) ∧ len ≤ maxLen := by
  rcases open_slice ht h with ⟨hcs, _⟩ | ⟨a0, len', cap', m, n, D, Pl, hcs, _, hl, hm, hmm, _, hx⟩
  · cases hcs; exact .inl ⟨rfl, rfl, rfl⟩
  · cases hcs
    simp only [if_true] at hmm
    subst hmm
    rw [hN] at hx
    have hc : ∀ j, j < len * N → ∃ u, W.cell? (a0.add j) = some u ∧ u.oneCell' = true := fun j hj => by
      have hi : j / N < len := Nat.div_lt_of_lt_mul (by rwa [Nat.mul_comm])
      obtain ⟨cs', hc0, ht0⟩ := hx (j / N) (by omega)
      obtain ⟨_, hl2, hcell⟩ := World.cells?_some hc0
      have hr : j % N < N := Nat.mod_lt _ h0
      have h1 := hcell (j % N) hr
      have h2 : cs'[j % N]? = some (cs'[j % N]'(by omega)) := List.getElem?_eq_getElem _
      have e : (a0.add (j / N * N)).add (j % N) = a0.add j := by rw [addr_add, Nat.mul_comm, Nat.div_add_mod]
      rw [e, h2] at h1
      exact ⟨_, h1, hel _ _ _ ht0 _ (List.getElem_mem _)⟩
    have hget : ∀ (j : Nat) u, ((List.range (len * N)).map fun j => (W.cell? (a0.add j)).getD undef)[j]? = some u → W.cell? (a0.add j) = some u ∧ u.oneCell' = true := fun j u hj => by
      have hjl : j < len * N := by simpa using (List.getElem?_eq_some_iff.1 hj).1
      obtain ⟨v, h1, h2⟩ := hc j hjl
      have : v = u := by simpa [hjl, h1] using hj
      subst this
      exact ⟨h1, h2⟩
    refine .inr ⟨a0, (List.range (len * N)).map fun j => (W.cell? (a0.add j)).getD undef, rfl, by simp, fun j u hj => (hget j u hj).1, fun u hu => ?_, by omega⟩
    obtain ⟨j, hj, hju⟩ := List.getElem_of_mem hu
    exact (hget j u (by rw [← hju]; exact List.getElem?_eq_getElem hj)).2
end PH
namespace Go.Proofs.YtjmfclhilmmamaaGreatDoor
open Go.ChangeShapes Go.WideShapes Go.RowKit Go.Deep PH
section
variable {H : Type} {enc : TypeId × Value → H} {W : World}
set_option maxRecDepth 100000 in
theorem open_attr {fuel : Nat} {cs : List Value} {x : DataW H × List MemPlace} (h : DataW.trod enc Tryz.prog W 0 (fun _ => true) true fuel 23 cs = some x) :
    ∃ (v0 : Int) (v1 : Int) (v2 : Int) (v3 : Int) (v4 : Int) (v5 : Int) (v6 : Int) (v7 : Int) (v8 : Int) (v9 : Int), cs = [.int .i64 v0, .int .i64 v1, .int .i64 v2, .int .i64 v3, .int .i64 v4, .int .i64 v5, .int .i64 v6, .int .i64 v7, .int .i64 v8, .int .i64 v9] ∧ ((Lit.int .i64 v0).wf = true) ∧ ((Lit.int .i64 v1).wf = true) ∧ ((Lit.int .i64 v2).wf = true) ∧ ((Lit.int .i64 v3).wf = true) ∧ ((Lit.int .i64 v4).wf = true) ∧ ((Lit.int .i64 v5).wf = true) ∧ ((Lit.int .i64 v6).wf = true) ∧ ((Lit.int .i64 v7).wf = true) ∧ ((Lit.int .i64 v8).wf = true) ∧ ((Lit.int .i64 v9).wf = true) := by
  obtain ⟨xs, n, _, _, hlen, hxl, hf⟩ := DataW.trod_struct Tryz.underlying23 h
  rw [show Tryz.prog.cellsOf 23 = 10 by kernel_rfl] at hlen
  obtain ⟨y0, hy0⟩ : ∃ y, xs[0]? = some y := ⟨_, List.getElem?_eq_getElem (by rw [hxl]; exact of_decide_eq_true (by kernel_rfl))⟩
  have f0 : DataW.trod enc Tryz.prog W 0 (fun _ => true) true n 3 ((cs.drop 0).take 1) = some y0 := (show Tryz.prog.cellsOf 3 = 1 by kernel_rfl) ▸ hy0 ▸ hf 0 _ rfl
  obtain ⟨v0, e0, _, w0⟩ := DataW.trod_int Tryz.underlying3 f0
  obtain ⟨y1, hy1⟩ : ∃ y, xs[1]? = some y := ⟨_, List.getElem?_eq_getElem (by rw [hxl]; exact of_decide_eq_true (by kernel_rfl))⟩
  have f1 : DataW.trod enc Tryz.prog W 0 (fun _ => true) true n 3 ((cs.drop 1).take 1) = some y1 := (show Tryz.prog.cellsOf 3 = 1 by kernel_rfl) ▸ hy1 ▸ hf 1 _ rfl
  obtain ⟨v1, e1, _, w1⟩ := DataW.trod_int Tryz.underlying3 f1
  obtain ⟨y2, hy2⟩ : ∃ y, xs[2]? = some y := ⟨_, List.getElem?_eq_getElem (by rw [hxl]; exact of_decide_eq_true (by kernel_rfl))⟩
  have f2 : DataW.trod enc Tryz.prog W 0 (fun _ => true) true n 3 ((cs.drop 2).take 1) = some y2 := (show Tryz.prog.cellsOf 3 = 1 by kernel_rfl) ▸ hy2 ▸ hf 2 _ rfl
  obtain ⟨v2, e2, _, w2⟩ := DataW.trod_int Tryz.underlying3 f2
  obtain ⟨y3, hy3⟩ : ∃ y, xs[3]? = some y := ⟨_, List.getElem?_eq_getElem (by rw [hxl]; exact of_decide_eq_true (by kernel_rfl))⟩
  have f3 : DataW.trod enc Tryz.prog W 0 (fun _ => true) true n 3 ((cs.drop 3).take 1) = some y3 := (show Tryz.prog.cellsOf 3 = 1 by kernel_rfl) ▸ hy3 ▸ hf 3 _ rfl
  obtain ⟨v3, e3, _, w3⟩ := DataW.trod_int Tryz.underlying3 f3
  obtain ⟨y4, hy4⟩ : ∃ y, xs[4]? = some y := ⟨_, List.getElem?_eq_getElem (by rw [hxl]; exact of_decide_eq_true (by kernel_rfl))⟩
  have f4 : DataW.trod enc Tryz.prog W 0 (fun _ => true) true n 3 ((cs.drop 4).take 1) = some y4 := (show Tryz.prog.cellsOf 3 = 1 by kernel_rfl) ▸ hy4 ▸ hf 4 _ rfl
  obtain ⟨v4, e4, _, w4⟩ := DataW.trod_int Tryz.underlying3 f4
  obtain ⟨y5, hy5⟩ : ∃ y, xs[5]? = some y := ⟨_, List.getElem?_eq_getElem (by rw [hxl]; exact of_decide_eq_true (by kernel_rfl))⟩
  have f5 : DataW.trod enc Tryz.prog W 0 (fun _ => true) true n 3 ((cs.drop 5).take 1) = some y5 := (show Tryz.prog.cellsOf 3 = 1 by kernel_rfl) ▸ hy5 ▸ hf 5 _ rfl
  obtain ⟨v5, e5, _, w5⟩ := DataW.trod_int Tryz.underlying3 f5
  obtain ⟨y6, hy6⟩ : ∃ y, xs[6]? = some y := ⟨_, List.getElem?_eq_getElem (by rw [hxl]; exact of_decide_eq_true (by kernel_rfl))⟩
  have f6 : DataW.trod enc Tryz.prog W 0 (fun _ => true) true n 3 ((cs.drop 6).take 1) = some y6 := (show Tryz.prog.cellsOf 3 = 1 by kernel_rfl) ▸ hy6 ▸ hf 6 _ rfl
  obtain ⟨v6, e6, _, w6⟩ := DataW.trod_int Tryz.underlying3 f6
  obtain ⟨y7, hy7⟩ : ∃ y, xs[7]? = some y := ⟨_, List.getElem?_eq_getElem (by rw [hxl]; exact of_decide_eq_true (by kernel_rfl))⟩
  have f7 : DataW.trod enc Tryz.prog W 0 (fun _ => true) true n 3 ((cs.drop 7).take 1) = some y7 := (show Tryz.prog.cellsOf 3 = 1 by kernel_rfl) ▸ hy7 ▸ hf 7 _ rfl
  obtain ⟨v7, e7, _, w7⟩ := DataW.trod_int Tryz.underlying3 f7
  obtain ⟨y8, hy8⟩ : ∃ y, xs[8]? = some y := ⟨_, List.getElem?_eq_getElem (by rw [hxl]; exact of_decide_eq_true (by kernel_rfl))⟩
  have f8 : DataW.trod enc Tryz.prog W 0 (fun _ => true) true n 3 ((cs.drop 8).take 1) = some y8 := (show Tryz.prog.cellsOf 3 = 1 by kernel_rfl) ▸ hy8 ▸ hf 8 _ rfl
  obtain ⟨v8, e8, _, w8⟩ := DataW.trod_int Tryz.underlying3 f8
  obtain ⟨y9, hy9⟩ : ∃ y, xs[9]? = some y := ⟨_, List.getElem?_eq_getElem (by rw [hxl]; exact of_decide_eq_true (by kernel_rfl))⟩
  have f9 : DataW.trod enc Tryz.prog W 0 (fun _ => true) true n 3 ((cs.drop 9).take 1) = some y9 := (show Tryz.prog.cellsOf 3 = 1 by kernel_rfl) ▸ hy9 ▸ hf 9 _ rfl
  obtain ⟨v9, e9, _, w9⟩ := DataW.trod_int Tryz.underlying3 f9
  have e : cs = _ := (List.drop_zero (l := cs)).symm.trans (cutL 0 1 1 rfl (cutL 1 1 2 rfl (cutL 2 1 3 rfl (cutL 3 1 4 rfl (cutL 4 1 5 rfl (cutL 5 1 6 rfl (cutL 6 1 7 rfl (cutL 7 1 8 rfl (cutL 8 1 9 rfl (cutL 9 1 10 rfl (List.drop_eq_nil_of_le (by omega))))))))))))
  rw [e0, e1, e2, e3, e4, e5, e6, e7, e8, e9] at e
  exact ⟨v0, v1, v2, v3, v4, v5, v6, v7, v8, v9, e, w0, w1, w2, w3, w4, w5, w6, w7, w8, w9⟩
end
end Go.Proofs.YtjmfclhilmmamaaGreatDoor
