/-
  Arguments that are structs, opened: the cells that were read, and what is known of each.
-/
import Derived.Test.YtmnmdlmmeldiiaaGreatDoorProxyL
import Derived.OpenShut
import Derived.Laws.IdiomArrays
import Derived.ProofKit
import Derived.Deep.Slices
import Derived.Deep.Fields
namespace PH
open Go Go.RowKit Go.Deep
theorem cutL {α : Type} {cs rest : List α} (o k o1 : Nat) (h : o + k = o1) (r : cs.drop o1 = rest) : cs.drop o = (cs.drop o).take k ++ rest := by
  subst h
  rw [← r, ← List.drop_drop, List.take_append_drop]
theorem addr_add (a : Addr) (m n : Nat) : (a.add m).add n = a.add (m + n) := by
  unfold Addr.add
  by_cases hm : m = 0 <;> by_cases hn : n = 0 <;> simp [hm, hn, Nat.add_assoc]
/-- The cells of a slice that was read. -/
theorem slice_cells {H : Type} {enc : TypeId × Value → H} {P : Program} {W : World} {t e : TypeId} {N fuel : Nat} {a : Option Addr} {len cap : Nat} {x : DataW H × List MemPlace} (ht : P.underlying t = some (.slice e)) (hN : P.cellsOf e = N) (h0 : 0 < N)
    (hel : ∀ fuel cs y, DataW.trod enc P W 0 (fun _ => true) true fuel e cs = some y → ∀ u ∈ cs, u.oneCell' = true) (h : DataW.trod enc P W 0 (fun _ => true) true fuel t [.slice a len cap] = some x) :
    (a = none ∧ len = 0 ∧ cap = 0) ∨ ∃ (a0 : Addr) (news : List Value), a = some a0 ∧ news.length = len * N ∧ (∀ (j : Nat) u, news[j]? = some u → W.cell? (a0.add j) = some u) ∧ (∀ u ∈ news, u.oneCell' = true) ∧ len ≤ maxLen := by
  rcases open_slice ht h with ⟨hcs, _⟩ | ⟨a0, len', cap', m, n, D, Pl, hcs, _, hl, hm, hmm, _, hx⟩
  · cases hcs; exact .inl ⟨rfl, rfl, rfl⟩
  · cases hcs
    simp only [if_true] at hmm
    subst hmm
    rw [hN] at hx
    have hc : ∀ j, j < len * N → ∃ u, W.cell? (a0.add j) = some u ∧ u.oneCell' = true := fun j hj => by
      have hi : j / N < len := Nat.div_lt_of_lt_mul (by rwa [Nat.mul_comm])
      obtain ⟨cs', hc0, ht0⟩ := hx (j / N) (by omega)
      obtain ⟨_, hl2, hcell⟩ := World.cells?_some hc0
      have hr : j % N < N := Nat.mod_lt _ h0
      have h1 := hcell (j % N) hr
      have h2 : cs'[j % N]? = some (cs'[j % N]'(by omega)) := List.getElem?_eq_getElem _
      have e : (a0.add (j / N * N)).add (j % N) = a0.add j := by rw [addr_add, Nat.mul_comm, Nat.div_add_mod]
      rw [e, h2] at h1
      exact ⟨_, h1, hel _ _ _ ht0 _ (List.getElem_mem _)⟩
    have hget : ∀ (j : Nat) u, ((List.range (len * N)).map fun j => (W.cell? (a0.add j)).getD undef)[j]? = some u → W.cell? (a0.add j) = some u ∧ u.oneCell' = true := fun j u hj => by
      have hjl : j < len * N := by simpa using (List.getElem?_eq_some_iff.1 hj).1
      obtain ⟨v, h1, h2⟩ := hc j hjl
      have : v = u := by simpa [hjl, h1] using hj
      subst this
      exact ⟨h1, h2⟩
    refine .inr ⟨a0, (List.range (len * N)).map fun j => (W.cell? (a0.add j)).getD undef, rfl, by simp, fun j u hj => (hget j u hj).1, fun u hu => ?_, by omega⟩
    obtain ⟨j, hj, hju⟩ := List.getElem_of_mem hu
    exact (hget j u (by rw [← hju]; exact List.getElem?_eq_getElem hj)).2
end PH
namespace Go.Proofs.YtmnmdlmmeldiiaaGreatDoor
open Go.ChangeShapes Go.WideShapes Go.RowKit Go.Deep PH
section
variable {H : Type} {enc : TypeId × Value → H} {W : World}
set_option maxRecDepth 100000 in
theorem open_packet {fuel : Nat} {cs : List Value} {x : DataW H × List MemPlace} (h : DataW.trod enc Tryz.prog W 0 (fun _ => true) true fuel 23 cs = some x) :
    ∃ (v0 : Int) (v1 : Int) (v2 : ByteArray), cs = [.int .i64 v0, .int .i64 v1, .string v2] ∧ ((Lit.int .i64 v0).wf = true) ∧ ((Lit.int .i64 v1).wf = true) ∧ (v2.size ≤ maxLen) := by
  obtain ⟨xs, n, _, _, hlen, hxl, hf⟩ := DataW.trod_struct Tryz.underlying23 h
  rw [show Tryz.prog.cellsOf 23 = 3 by kernel_rfl] at hlen
  obtain ⟨y0, hy0⟩ : ∃ y, xs[0]? = some y := ⟨_, List.getElem?_eq_getElem (by rw [hxl]; exact of_decide_eq_true (by kernel_rfl))⟩
  have f0 : DataW.trod enc Tryz.prog W 0 (fun _ => true) true n 3 ((cs.drop 0).take 1) = some y0 := (show Tryz.prog.cellsOf 3 = 1 by kernel_rfl) ▸ hy0 ▸ hf 0 _ rfl
  obtain ⟨v0, e0, _, w0⟩ := DataW.trod_int Tryz.underlying3 f0
  obtain ⟨y1, hy1⟩ : ∃ y, xs[1]? = some y := ⟨_, List.getElem?_eq_getElem (by rw [hxl]; exact of_decide_eq_true (by kernel_rfl))⟩
  have f1 : DataW.trod enc Tryz.prog W 0 (fun _ => true) true n 3 ((cs.drop 1).take 1) = some y1 := (show Tryz.prog.cellsOf 3 = 1 by kernel_rfl) ▸ hy1 ▸ hf 1 _ rfl
  obtain ⟨v1, e1, _, w1⟩ := DataW.trod_int Tryz.underlying3 f1
  obtain ⟨y2, hy2⟩ : ∃ y, xs[2]? = some y := ⟨_, List.getElem?_eq_getElem (by rw [hxl]; exact of_decide_eq_true (by kernel_rfl))⟩
  have f2 : DataW.trod enc Tryz.prog W 0 (fun _ => true) true n 9 ((cs.drop 2).take 1) = some y2 := (show Tryz.prog.cellsOf 9 = 1 by kernel_rfl) ▸ hy2 ▸ hf 2 _ rfl
  obtain ⟨v2, e2, _, w2⟩ := DataW.trod_string Tryz.underlying9 f2
  have e : cs = _ := (List.drop_zero (l := cs)).symm.trans (cutL 0 1 1 rfl (cutL 1 1 2 rfl (cutL 2 1 3 rfl (List.drop_eq_nil_of_le (by omega)))))
  rw [e0, e1, e2] at e
  exact ⟨v0, v1, v2, e, w0, w1, w2⟩
end
end Go.Proofs.YtmnmdlmmeldiiaaGreatDoor
