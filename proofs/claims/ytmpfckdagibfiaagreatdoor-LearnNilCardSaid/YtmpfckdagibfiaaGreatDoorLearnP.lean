/-
  Arguments that are structs, opened: the cells that were read, and what is known of each.
-/
import Derived.Test.YtmpfckdagibfiaaGreatDoorLearnL
import Derived.OpenShut
import Derived.Laws.IdiomArrays
import Derived.ProofKit
import Derived.Deep.Slices
import Derived.Deep.Fields
namespace PH
open Go Go.RowKit Go.Deep
theorem cutL {α : Type} {cs rest : List α} (o k o1 : Nat) (h : o + k = o1) (r : cs.drop o1 = rest) : cs.drop o = (cs.drop o).take k ++ rest := by
  subst h
  rw [← r, ← List.drop_drop, List.take_append_drop]
theorem addr_add (a : Addr) (m n : Nat) : (a.add m).add n = a.add (m + n) := by
  unfold Addr.add
  by_cases hm : m = 0 <;> by_cases hn : n = 0 <;> simp [hm, hn, Nat.add_assoc]
/-- The cells of a slice that was read. -/
theorem slice_cells {H : Type} {enc : TypeId × Value → H} {P : Program} {W : World} {t e : TypeId} {N fuel : Nat} {a : Option Addr} {len cap : Nat} {x : DataW H × List MemPlace} (ht : P.underlying t = some (.slice e)) (hN : P.cellsOf e = N) (h0 : 0 < N)
    (hel : ∀ fuel cs y, DataW.trod enc P W 0 (fun _ => true) true fuel e cs = some y → ∀ u ∈ cs, u.oneCell' = true) (h : DataW.trod enc P W 0 (fun _ => true) true fuel t [.slice a len cap] = some x) :
    (a = none ∧ len = 0 ∧ cap = 0) ∨ ∃ (a0 : Addr) (news : List Value), a = some a0 ∧ news.length = len * N ∧ (∀ (j : Nat) u, news[j]? = some u → W.cell? (a0.add j) = some u) ∧ (∀ u ∈ news, u.oneCell' = true) ∧ len ≤ maxLen := by
  rcases open_slice ht h with ⟨hcs, _⟩ | ⟨a0, len', cap', m, n, D, Pl, hcs, _, hl, hm, hmm, _, hx⟩
  · cases hcs; exact .inl ⟨rfl, rfl, rfl⟩
  · cases hcs
    simp only [if_true] at hmm
    subst hmm
    rw [hN] at hx
    have hc : ∀ j, j < len * N → ∃ u, W.cell? (a0.add j) = some u ∧ u.oneCell' = true := fun j hj => by
      have hi : j / N < len := Nat.div_lt_of_lt_mul (by rwa [Nat.mul_comm])
      obtain ⟨cs', hc0, ht0⟩ := hx (j / N) (by omega)
      obtain ⟨_, hl2, hcell⟩ := World.cells?_some hc0
      have hr : j % N < N := Nat.mod_lt _ h0
      have h1 := hcell (j % N) hr
      have h2 : cs'[j % N]? = some (cs'[j % N]'(by omega)) := List.getElem?_eq_getElem _
      have e : (a0.add (j / N * N)).add (j % N) = a0.add j := by rw [addr_add, Nat.mul_comm, Nat.div_add_mod]
      rw [e, h2] at h1
      exact ⟨_, h1, hel _ _ _ ht0 _ (List.getElem_mem _)⟩
    have hget : ∀ (j : Nat) u, ((List.range (len * N)).map fun j => (W.cell? (a0.add j)).getD undef)[j]? = some u → W.cell? (a0.add j) = some u ∧ u.oneCell' = true := fun j u hj => by
      have hjl : j < len * N := by simpa using (List.getElem?_eq_some_iff.1 hj).1
      obtain ⟨v, h1, h2⟩ := hc j hjl
      have : v = u := by simpa [hjl, h1] using hj
      subst this
      exact ⟨h1, h2⟩
    refine .inr ⟨a0, (List.range (len * N)).map fun j => (W.cell? (a0.add j)).getD undef, rfl, by simp, fun j u hj => (hget j u hj).1, fun u hu => ?_, by omega⟩
    obtain ⟨j, hj, hju⟩ := List.getElem_of_mem hu
    exact (hget j u (by rw [← hju]; exact List.getElem?_eq_getElem hj)).2
end PH
namespace Go.Proofs.YtmpfckdagibfiaaGreatDoor
open Go.ChangeShapes Go.WideShapes Go.RowKit Go.Deep PH
section
variable {H : Type} {enc : TypeId × Value → H} {W : World}
set_option maxRecDepth 100000 in
theorem open_attr {fuel : Nat} {cs : List Value} {x : DataW H × List MemPlace} (h : DataW.trod enc Tryz.prog W 0 (fun _ => true) true fuel 30 cs = some x) :
    ∃ (v0 : Int) (v1 : Int) (v2 : Int) (v3 : Int) (v4 : Int) (v5 : Int) (v6 : Int) (v7 : Int) (v8 : Int) (v9 : Int), cs = [.int .i64 v0, .int .i64 v1, .int .i64 v2, .int .i64 v3, .int .i64 v4, .int .i64 v5, .int .i64 v6, .int .i64 v7, .int .i64 v8, .int .i64 v9] ∧ ((Lit.int .i64 v0).wf = true) ∧ ((Lit.int .i64 v1).wf = true) ∧ ((Lit.int .i64 v2).wf = true) ∧ ((Lit.int .i64 v3).wf = true) ∧ ((Lit.int .i64 v4).wf = true) ∧ ((Lit.int .i64 v5).wf = true) ∧ ((Lit.int .i64 v6).wf = true) ∧ ((Lit.int .i64 v7).wf = true) ∧ ((Lit.int .i64 v8).wf = true) ∧ ((Lit.int .i64 v9).wf = true) := by
  obtain ⟨xs, n, _, _, hlen, hxl, hf⟩ := DataW.trod_struct Tryz.underlying30 h
  rw [show Tryz.prog.cellsOf 30 = 10 by kernel_rfl] at hlen
  obtain ⟨y0, hy0⟩ : ∃ y, xs[0]? = some y := ⟨_, List.getElem?_eq_getElem (by rw [hxl]; exact of_decide_eq_true (by kernel_rfl))⟩
  have f0 : DataW.trod enc Tryz.prog W 0 (fun _ => true) true n 3 ((cs.drop 0).take 1) = some y0 := (show Tryz.prog.cellsOf 3 = 1 by kernel_rfl) ▸ hy0 ▸ hf 0 _ rfl
  obtain ⟨v0, e0, _, w0⟩ := DataW.trod_int Tryz.underlying3 f0
  obtain ⟨y1, hy1⟩ : ∃ y, xs[1]? = some y := ⟨_, List.getElem?_eq_getElem (by rw [hxl]; exact of_decide_eq_true (by kernel_rfl))⟩
  have f1 : DataW.trod enc Tryz.prog W 0 (fun _ => true) true n 3 ((cs.drop 1).take 1) = some y1 := (show Tryz.prog.cellsOf 3 = 1 by kernel_rfl) ▸ hy1 ▸ hf 1 _ rfl
  obtain ⟨v1, e1, _, w1⟩ := DataW.trod_int Tryz.underlying3 f1
  obtain ⟨y2, hy2⟩ : ∃ y, xs[2]? = some y := ⟨_, List.getElem?_eq_getElem (by rw [hxl]; exact of_decide_eq_true (by kernel_rfl))⟩
  have f2 : DataW.trod enc Tryz.prog W 0 (fun _ => true) true n 3 ((cs.drop 2).take 1) = some y2 := (show Tryz.prog.cellsOf 3 = 1 by kernel_rfl) ▸ hy2 ▸ hf 2 _ rfl
  obtain ⟨v2, e2, _, w2⟩ := DataW.trod_int Tryz.underlying3 f2
  obtain ⟨y3, hy3⟩ : ∃ y, xs[3]? = some y := ⟨_, List.getElem?_eq_getElem (by rw [hxl]; exact of_decide_eq_true (by kernel_rfl))⟩
  have f3 : DataW.trod enc Tryz.prog W 0 (fun _ => true) true n 3 ((cs.drop 3).take 1) = some y3 := (show Tryz.prog.cellsOf 3 = 1 by kernel_rfl) ▸ hy3 ▸ hf 3 _ rfl
  obtain ⟨v3, e3, _, w3⟩ := DataW.trod_int Tryz.underlying3 f3
  obtain ⟨y4, hy4⟩ : ∃ y, xs[4]? = some y := ⟨_, List.getElem?_eq_getElem (by rw [hxl]; exact of_decide_eq_true (by kernel_rfl))⟩
  have f4 : DataW.trod enc Tryz.prog W 0 (fun _ => true) true n 3 ((cs.drop 4).take 1) = some y4 := (show Tryz.prog.cellsOf 3 = 1 by kernel_rfl) ▸ hy4 ▸ hf 4 _ rfl
  obtain ⟨v4, e4, _, w4⟩ := DataW.trod_int Tryz.underlying3 f4
  obtain ⟨y5, hy5⟩ : ∃ y, xs[5]? = some y := ⟨_, List.getElem?_eq_getElem (by rw [hxl]; exact of_decide_eq_true (by kernel_rfl))⟩
  have f5 : DataW.trod enc Tryz.prog W 0 (fun _ => true) true n 3 ((cs.drop 5).take 1) = some y5 := (show Tryz.prog.cellsOf 3 = 1 by kernel_rfl) ▸ hy5 ▸ hf 5 _ rfl
  obtain ⟨v5, e5, _, w5⟩ := DataW.trod_int Tryz.underlying3 f5
  obtain ⟨y6, hy6⟩ : ∃ y, xs[6]? = some y := ⟨_, List.getElem?_eq_getElem (by rw [hxl]; exact of_decide_eq_true (by kernel_rfl))⟩
  have f6 : DataW.trod enc Tryz.prog W 0 (fun _ => true) true n 3 ((cs.drop 6).take 1) = some y6 := (show Tryz.prog.cellsOf 3 = 1 by kernel_rfl) ▸ hy6 ▸ hf 6 _ rfl
  obtain ⟨v6, e6, _, w6⟩ := DataW.trod_int Tryz.underlying3 f6
  obtain ⟨y7, hy7⟩ : ∃ y, xs[7]? = some y := ⟨_, List.getElem?_eq_getElem (by rw [hxl]; exact of_decide_eq_true (by kernel_rfl))⟩
  have f7 : DataW.trod enc Tryz.prog W 0 (fun _ => true) true n 3 ((cs.drop 7).take 1) = some y7 := (show Tryz.prog.cellsOf 3 = 1 by kernel_rfl) ▸ hy7 ▸ hf 7 _ rfl
  obtain ⟨v7, e7, _, w7⟩ := DataW.trod_int Tryz.underlying3 f7
  obtain ⟨y8, hy8⟩ : ∃ y, xs[8]? = some y := ⟨_, List.getElem?_eq_getElem (by rw [hxl]; exact of_decide_eq_true (by kernel_rfl))⟩
  have f8 : DataW.trod enc Tryz.prog W 0 (fun _ => true) true n 3 ((cs.drop 8).take 1) = some y8 := (show Tryz.prog.cellsOf 3 = 1 by kernel_rfl) ▸ hy8 ▸ hf 8 _ rfl
  obtain ⟨v8, e8, _, w8⟩ := DataW.trod_int Tryz.underlying3 f8
  obtain ⟨y9, hy9⟩ : ∃ y, xs[9]? = some y := ⟨_, List.getElem?_eq_getElem (by rw [hxl]; exact of_decide_eq_true (by kernel_rfl))⟩
  have f9 : DataW.trod enc Tryz.prog W 0 (fun _ => true) true n 3 ((cs.drop 9).take 1) = some y9 := (show Tryz.prog.cellsOf 3 = 1 by kernel_rfl) ▸ hy9 ▸ hf 9 _ rfl
  obtain ⟨v9, e9, _, w9⟩ := DataW.trod_int Tryz.underlying3 f9
  have e : cs = _ := (List.drop_zero (l := cs)).symm.trans (cutL 0 1 1 rfl (cutL 1 1 2 rfl (cutL 2 1 3 rfl (cutL 3 1 4 rfl (cutL 4 1 5 rfl (cutL 5 1 6 rfl (cutL 6 1 7 rfl (cutL 7 1 8 rfl (cutL 8 1 9 rfl (cutL 9 1 10 rfl (List.drop_eq_nil_of_le (by omega))))))))))))
  rw [e0, e1, e2, e3, e4, e5, e6, e7, e8, e9] at e
  exact ⟨v0, v1, v2, v3, v4, v5, v6, v7, v8, v9, e, w0, w1, w2, w3, w4, w5, w6, w7, w8, w9⟩
set_option maxRecDepth 100000 in
theorem open_post {fuel : Nat} {cs : List Value} {x : DataW H × List MemPlace} (h : DataW.trod enc Tryz.prog W 0 (fun _ => true) true fuel 32 cs = some x) :
    ∃ (v0 : Bool) (v1 : Int) (v2 : Int) (v3 : Int) (v4 : Int) (v5 : Int) (v6 : Int) (v7 : Int) (v8 : Int) (v9 : Int) (v10 : Int), cs = [.bool v0, .int .i64 v1, .int .i64 v2, .int .i64 v3, .int .i64 v4, .int .i64 v5, .int .i64 v6, .int .i64 v7, .int .i64 v8, .int .i64 v9, .int .i64 v10] ∧ ((Lit.int .i64 v1).wf = true) ∧ ((Lit.int .i64 v2).wf = true) ∧ ((Lit.int .i64 v3).wf = true) ∧ ((Lit.int .i64 v4).wf = true) ∧ ((Lit.int .i64 v5).wf = true) ∧ ((Lit.int .i64 v6).wf = true) ∧ ((Lit.int .i64 v7).wf = true) ∧ ((Lit.int .i64 v8).wf = true) ∧ ((Lit.int .i64 v9).wf = true) ∧ ((Lit.int .i64 v10).wf = true) := by
  obtain ⟨xs, n, _, _, hlen, hxl, hf⟩ := DataW.trod_struct Tryz.underlying32 h
  rw [show Tryz.prog.cellsOf 32 = 11 by kernel_rfl] at hlen
  obtain ⟨y0, hy0⟩ : ∃ y, xs[0]? = some y := ⟨_, List.getElem?_eq_getElem (by rw [hxl]; exact of_decide_eq_true (by kernel_rfl))⟩
  have f0 : DataW.trod enc Tryz.prog W 0 (fun _ => true) true n 4 ((cs.drop 0).take 1) = some y0 := (show Tryz.prog.cellsOf 4 = 1 by kernel_rfl) ▸ hy0 ▸ hf 0 _ rfl
  obtain ⟨v0, e0, _⟩ := DataW.trod_bool Tryz.underlying4 f0
  obtain ⟨y1, hy1⟩ : ∃ y, xs[1]? = some y := ⟨_, List.getElem?_eq_getElem (by rw [hxl]; exact of_decide_eq_true (by kernel_rfl))⟩
  have f1 : DataW.trod enc Tryz.prog W 0 (fun _ => true) true n 30 ((cs.drop 1).take 10) = some y1 := (show Tryz.prog.cellsOf 30 = 10 by kernel_rfl) ▸ hy1 ▸ hf 1 _ rfl
  obtain ⟨v1, v2, v3, v4, v5, v6, v7, v8, v9, v10, e1, w1, w2, w3, w4, w5, w6, w7, w8, w9, w10⟩ := open_attr f1
  have e : cs = _ := (List.drop_zero (l := cs)).symm.trans (cutL 0 1 1 rfl (cutL 1 10 11 rfl (List.drop_eq_nil_of_le (by omega))))
  rw [e0, e1] at e
  exact ⟨v0, v1, v2, v3, v4, v5, v6, v7, v8, v9, v10, e, w1, w2, w3, w4, w5, w6, w7, w8, w9, w10⟩
set_option maxRecDepth 100000 in
theorem open_entry {fuel : Nat} {cs : List Value} {x : DataW H × List MemPlace} (h : DataW.trod enc Tryz.prog W 0 (fun _ => true) true fuel 75 cs = some x) :
    ∃ (v0 : Int) (v1 : ByteArray) (v2 : Int) (v3 : Bool) (v4 : Int) (v5 : Int) (v6 : Int) (v7 : Int) (v8 : Int) (v9 : Int) (v10 : Int) (v11 : Int) (v12 : Int) (v13 : Int) (v14 : ByteArray), cs = [.int .i64 v0, .string v1, .int .i64 v2, .bool v3, .int .i64 v4, .int .i64 v5, .int .i64 v6, .int .i64 v7, .int .i64 v8, .int .i64 v9, .int .i64 v10, .int .i64 v11, .int .i64 v12, .int .i64 v13, .string v14] ∧ ((Lit.int .i64 v0).wf = true) ∧ (v1.size ≤ maxLen) ∧ ((Lit.int .i64 v2).wf = true) ∧ ((Lit.int .i64 v4).wf = true) ∧ ((Lit.int .i64 v5).wf = true) ∧ ((Lit.int .i64 v6).wf = true) ∧ ((Lit.int .i64 v7).wf = true) ∧ ((Lit.int .i64 v8).wf = true) ∧ ((Lit.int .i64 v9).wf = true) ∧ ((Lit.int .i64 v10).wf = true) ∧ ((Lit.int .i64 v11).wf = true) ∧ ((Lit.int .i64 v12).wf = true) ∧ ((Lit.int .i64 v13).wf = true) ∧ (v14.size ≤ maxLen) := by
  obtain ⟨xs, n, _, _, hlen, hxl, hf⟩ := DataW.trod_struct Tryz.underlying75 h
  rw [show Tryz.prog.cellsOf 75 = 15 by kernel_rfl] at hlen
  obtain ⟨y0, hy0⟩ : ∃ y, xs[0]? = some y := ⟨_, List.getElem?_eq_getElem (by rw [hxl]; exact of_decide_eq_true (by kernel_rfl))⟩
  have f0 : DataW.trod enc Tryz.prog W 0 (fun _ => true) true n 3 ((cs.drop 0).take 1) = some y0 := (show Tryz.prog.cellsOf 3 = 1 by kernel_rfl) ▸ hy0 ▸ hf 0 _ rfl
  obtain ⟨v0, e0, _, w0⟩ := DataW.trod_int Tryz.underlying3 f0
  obtain ⟨y1, hy1⟩ : ∃ y, xs[1]? = some y := ⟨_, List.getElem?_eq_getElem (by rw [hxl]; exact of_decide_eq_true (by kernel_rfl))⟩
  have f1 : DataW.trod enc Tryz.prog W 0 (fun _ => true) true n 9 ((cs.drop 1).take 1) = some y1 := (show Tryz.prog.cellsOf 9 = 1 by kernel_rfl) ▸ hy1 ▸ hf 1 _ rfl
  obtain ⟨v1, e1, _, w1⟩ := DataW.trod_string Tryz.underlying9 f1
  obtain ⟨y2, hy2⟩ : ∃ y, xs[2]? = some y := ⟨_, List.getElem?_eq_getElem (by rw [hxl]; exact of_decide_eq_true (by kernel_rfl))⟩
  have f2 : DataW.trod enc Tryz.prog W 0 (fun _ => true) true n 3 ((cs.drop 2).take 1) = some y2 := (show Tryz.prog.cellsOf 3 = 1 by kernel_rfl) ▸ hy2 ▸ hf 2 _ rfl
  obtain ⟨v2, e2, _, w2⟩ := DataW.trod_int Tryz.underlying3 f2
  obtain ⟨y3, hy3⟩ : ∃ y, xs[3]? = some y := ⟨_, List.getElem?_eq_getElem (by rw [hxl]; exact of_decide_eq_true (by kernel_rfl))⟩
  have f3 : DataW.trod enc Tryz.prog W 0 (fun _ => true) true n 32 ((cs.drop 3).take 11) = some y3 := (show Tryz.prog.cellsOf 32 = 11 by kernel_rfl) ▸ hy3 ▸ hf 3 _ rfl
  obtain ⟨v3, v4, v5, v6, v7, v8, v9, v10, v11, v12, v13, e3, w4, w5, w6, w7, w8, w9, w10, w11, w12, w13⟩ := open_post f3
  obtain ⟨y4, hy4⟩ : ∃ y, xs[4]? = some y := ⟨_, List.getElem?_eq_getElem (by rw [hxl]; exact of_decide_eq_true (by kernel_rfl))⟩
  have f4 : DataW.trod enc Tryz.prog W 0 (fun _ => true) true n 9 ((cs.drop 14).take 1) = some y4 := (show Tryz.prog.cellsOf 9 = 1 by kernel_rfl) ▸ hy4 ▸ hf 4 _ rfl
  obtain ⟨v14, e4, _, w14⟩ := DataW.trod_string Tryz.underlying9 f4
  have e : cs = _ := (List.drop_zero (l := cs)).symm.trans (cutL 0 1 1 rfl (cutL 1 1 2 rfl (cutL 2 1 3 rfl (cutL 3 11 14 rfl (cutL 14 1 15 rfl (List.drop_eq_nil_of_le (by omega)))))))
  rw [e0, e1, e2, e3, e4] at e
  exact ⟨v0, v1, v2, v3, v4, v5, v6, v7, v8, v9, v10, v11, v12, v13, v14, e, w0, w1, w2, w4, w5, w6, w7, w8, w9, w10, w11, w12, w13, w14⟩
set_option maxRecDepth 100000 in
theorem open_opt {fuel : Nat} {cs : List Value} {x : DataW H × List MemPlace} (h : DataW.trod enc Tryz.prog W 0 (fun _ => true) true fuel 23 cs = some x) :
    ∃ (v0 : Bool) (v1 : Int), cs = [.bool v0, .int .i64 v1] ∧ ((Lit.int .i64 v1).wf = true) := by
  obtain ⟨xs, n, _, _, hlen, hxl, hf⟩ := DataW.trod_struct Tryz.underlying23 h
  rw [show Tryz.prog.cellsOf 23 = 2 by kernel_rfl] at hlen
  obtain ⟨y0, hy0⟩ : ∃ y, xs[0]? = some y := ⟨_, List.getElem?_eq_getElem (by rw [hxl]; exact of_decide_eq_true (by kernel_rfl))⟩
  have f0 : DataW.trod enc Tryz.prog W 0 (fun _ => true) true n 4 ((cs.drop 0).take 1) = some y0 := (show Tryz.prog.cellsOf 4 = 1 by kernel_rfl) ▸ hy0 ▸ hf 0 _ rfl
  obtain ⟨v0, e0, _⟩ := DataW.trod_bool Tryz.underlying4 f0
  obtain ⟨y1, hy1⟩ : ∃ y, xs[1]? = some y := ⟨_, List.getElem?_eq_getElem (by rw [hxl]; exact of_decide_eq_true (by kernel_rfl))⟩
  have f1 : DataW.trod enc Tryz.prog W 0 (fun _ => true) true n 3 ((cs.drop 1).take 1) = some y1 := (show Tryz.prog.cellsOf 3 = 1 by kernel_rfl) ▸ hy1 ▸ hf 1 _ rfl
  obtain ⟨v1, e1, _, w1⟩ := DataW.trod_int Tryz.underlying3 f1
  have e : cs = _ := (List.drop_zero (l := cs)).symm.trans (cutL 0 1 1 rfl (cutL 1 1 2 rfl (List.drop_eq_nil_of_le (by omega))))
  rw [e0, e1] at e
  exact ⟨v0, v1, e, w1⟩
set_option maxRecDepth 100000 in
theorem open_set {fuel : Nat} {cs : List Value} {x : DataW H × List MemPlace} (h : DataW.trod enc Tryz.prog W 0 (fun _ => true) true fuel 25 cs = some x) :
    ∃ (v0 : Bool) (v1 : Int) (v2 : Bool) (v3 : Int) (v4 : Bool) (v5 : Int) (v6 : Bool) (v7 : Int) (v8 : Bool) (v9 : Int), cs = [.bool v0, .int .i64 v1, .bool v2, .int .i64 v3, .bool v4, .int .i64 v5, .bool v6, .int .i64 v7, .bool v8, .int .i64 v9] ∧ ((Lit.int .i64 v1).wf = true) ∧ ((Lit.int .i64 v3).wf = true) ∧ ((Lit.int .i64 v5).wf = true) ∧ ((Lit.int .i64 v7).wf = true) ∧ ((Lit.int .i64 v9).wf = true) := by
  obtain ⟨xs, n, _, _, hlen, hxl, hf⟩ := DataW.trod_struct Tryz.underlying25 h
  rw [show Tryz.prog.cellsOf 25 = 10 by kernel_rfl] at hlen
  obtain ⟨y0, hy0⟩ : ∃ y, xs[0]? = some y := ⟨_, List.getElem?_eq_getElem (by rw [hxl]; exact of_decide_eq_true (by kernel_rfl))⟩
  have f0 : DataW.trod enc Tryz.prog W 0 (fun _ => true) true n 23 ((cs.drop 0).take 2) = some y0 := (show Tryz.prog.cellsOf 23 = 2 by kernel_rfl) ▸ hy0 ▸ hf 0 _ rfl
  obtain ⟨v0, v1, e0, w1⟩ := open_opt f0
  obtain ⟨y1, hy1⟩ : ∃ y, xs[1]? = some y := ⟨_, List.getElem?_eq_getElem (by rw [hxl]; exact of_decide_eq_true (by kernel_rfl))⟩
  have f1 : DataW.trod enc Tryz.prog W 0 (fun _ => true) true n 23 ((cs.drop 2).take 2) = some y1 := (show Tryz.prog.cellsOf 23 = 2 by kernel_rfl) ▸ hy1 ▸ hf 1 _ rfl
  obtain ⟨v2, v3, e1, w3⟩ := open_opt f1
  obtain ⟨y2, hy2⟩ : ∃ y, xs[2]? = some y := ⟨_, List.getElem?_eq_getElem (by rw [hxl]; exact of_decide_eq_true (by kernel_rfl))⟩
  have f2 : DataW.trod enc Tryz.prog W 0 (fun _ => true) true n 23 ((cs.drop 4).take 2) = some y2 := (show Tryz.prog.cellsOf 23 = 2 by kernel_rfl) ▸ hy2 ▸ hf 2 _ rfl
  obtain ⟨v4, v5, e2, w5⟩ := open_opt f2
  obtain ⟨y3, hy3⟩ : ∃ y, xs[3]? = some y := ⟨_, List.getElem?_eq_getElem (by rw [hxl]; exact of_decide_eq_true (by kernel_rfl))⟩
  have f3 : DataW.trod enc Tryz.prog W 0 (fun _ => true) true n 23 ((cs.drop 6).take 2) = some y3 := (show Tryz.prog.cellsOf 23 = 2 by kernel_rfl) ▸ hy3 ▸ hf 3 _ rfl
  obtain ⟨v6, v7, e3, w7⟩ := open_opt f3
  obtain ⟨y4, hy4⟩ : ∃ y, xs[4]? = some y := ⟨_, List.getElem?_eq_getElem (by rw [hxl]; exact of_decide_eq_true (by kernel_rfl))⟩
  have f4 : DataW.trod enc Tryz.prog W 0 (fun _ => true) true n 23 ((cs.drop 8).take 2) = some y4 := (show Tryz.prog.cellsOf 23 = 2 by kernel_rfl) ▸ hy4 ▸ hf 4 _ rfl
  obtain ⟨v8, v9, e4, w9⟩ := open_opt f4
  have e : cs = _ := (List.drop_zero (l := cs)).symm.trans (cutL 0 2 2 rfl (cutL 2 2 4 rfl (cutL 4 2 6 rfl (cutL 6 2 8 rfl (cutL 8 2 10 rfl (List.drop_eq_nil_of_le (by omega)))))))
  rw [e0, e1, e2, e3, e4] at e
  exact ⟨v0, v1, v2, v3, v4, v5, v6, v7, v8, v9, e, w1, w3, w5, w7, w9⟩
set_option maxRecDepth 100000 in
theorem open_call {fuel : Nat} {cs : List Value} {x : DataW H × List MemPlace} (h : DataW.trod enc Tryz.prog W 0 (fun _ => true) true fuel 27 cs = some x) :
    ∃ (v0 : Int) (v1 : ByteArray) (v2 : ByteArray) (v3 : ByteArray) (v4 : ByteArray) (v5 : Int) (v6 : Int) (v7 : Int) (v8 : ByteArray) (v9 : Bool) (v10 : Int) (v11 : Bool) (v12 : Int) (v13 : Bool) (v14 : Int) (v15 : Bool) (v16 : Int) (v17 : Bool) (v18 : Int) (v19 : Bool) (v20 : Int) (v21 : Int) (v22 : Int) (v23 : ByteArray), cs = [.int .i64 v0, .string v1, .string v2, .string v3, .string v4, .int .i64 v5, .int .i64 v6, .int .i64 v7, .string v8, .bool v9, .int .i64 v10, .bool v11, .int .i64 v12, .bool v13, .int .i64 v14, .bool v15, .int .i64 v16, .bool v17, .int .i64 v18, .bool v19, .int .i64 v20, .int .i64 v21, .int .i64 v22, .string v23] ∧ ((Lit.int .i64 v0).wf = true) ∧ (v1.size ≤ maxLen) ∧ (v2.size ≤ maxLen) ∧ (v3.size ≤ maxLen) ∧ (v4.size ≤ maxLen) ∧ ((Lit.int .i64 v5).wf = true) ∧ ((Lit.int .i64 v6).wf = true) ∧ ((Lit.int .i64 v7).wf = true) ∧ (v8.size ≤ maxLen) ∧ ((Lit.int .i64 v10).wf = true) ∧ ((Lit.int .i64 v12).wf = true) ∧ ((Lit.int .i64 v14).wf = true) ∧ ((Lit.int .i64 v16).wf = true) ∧ ((Lit.int .i64 v18).wf = true) ∧ ((Lit.int .i64 v20).wf = true) ∧ ((Lit.int .i64 v21).wf = true) ∧ ((Lit.int .i64 v22).wf = true) ∧ (v23.size ≤ maxLen) := by
  obtain ⟨xs, n, _, _, hlen, hxl, hf⟩ := DataW.trod_struct Tryz.underlying27 h
  rw [show Tryz.prog.cellsOf 27 = 24 by kernel_rfl] at hlen
  obtain ⟨y0, hy0⟩ : ∃ y, xs[0]? = some y := ⟨_, List.getElem?_eq_getElem (by rw [hxl]; exact of_decide_eq_true (by kernel_rfl))⟩
  have f0 : DataW.trod enc Tryz.prog W 0 (fun _ => true) true n 3 ((cs.drop 0).take 1) = some y0 := (show Tryz.prog.cellsOf 3 = 1 by kernel_rfl) ▸ hy0 ▸ hf 0 _ rfl
  obtain ⟨v0, e0, _, w0⟩ := DataW.trod_int Tryz.underlying3 f0
  obtain ⟨y1, hy1⟩ : ∃ y, xs[1]? = some y := ⟨_, List.getElem?_eq_getElem (by rw [hxl]; exact of_decide_eq_true (by kernel_rfl))⟩
  have f1 : DataW.trod enc Tryz.prog W 0 (fun _ => true) true n 9 ((cs.drop 1).take 1) = some y1 := (show Tryz.prog.cellsOf 9 = 1 by kernel_rfl) ▸ hy1 ▸ hf 1 _ rfl
  obtain ⟨v1, e1, _, w1⟩ := DataW.trod_string Tryz.underlying9 f1
  obtain ⟨y2, hy2⟩ : ∃ y, xs[2]? = some y := ⟨_, List.getElem?_eq_getElem (by rw [hxl]; exact of_decide_eq_true (by kernel_rfl))⟩
  have f2 : DataW.trod enc Tryz.prog W 0 (fun _ => true) true n 9 ((cs.drop 2).take 1) = some y2 := (show Tryz.prog.cellsOf 9 = 1 by kernel_rfl) ▸ hy2 ▸ hf 2 _ rfl
  obtain ⟨v2, e2, _, w2⟩ := DataW.trod_string Tryz.underlying9 f2
  obtain ⟨y3, hy3⟩ : ∃ y, xs[3]? = some y := ⟨_, List.getElem?_eq_getElem (by rw [hxl]; exact of_decide_eq_true (by kernel_rfl))⟩
  have f3 : DataW.trod enc Tryz.prog W 0 (fun _ => true) true n 9 ((cs.drop 3).take 1) = some y3 := (show Tryz.prog.cellsOf 9 = 1 by kernel_rfl) ▸ hy3 ▸ hf 3 _ rfl
  obtain ⟨v3, e3, _, w3⟩ := DataW.trod_string Tryz.underlying9 f3
  obtain ⟨y4, hy4⟩ : ∃ y, xs[4]? = some y := ⟨_, List.getElem?_eq_getElem (by rw [hxl]; exact of_decide_eq_true (by kernel_rfl))⟩
  have f4 : DataW.trod enc Tryz.prog W 0 (fun _ => true) true n 9 ((cs.drop 4).take 1) = some y4 := (show Tryz.prog.cellsOf 9 = 1 by kernel_rfl) ▸ hy4 ▸ hf 4 _ rfl
  obtain ⟨v4, e4, _, w4⟩ := DataW.trod_string Tryz.underlying9 f4
  obtain ⟨y5, hy5⟩ : ∃ y, xs[5]? = some y := ⟨_, List.getElem?_eq_getElem (by rw [hxl]; exact of_decide_eq_true (by kernel_rfl))⟩
  have f5 : DataW.trod enc Tryz.prog W 0 (fun _ => true) true n 3 ((cs.drop 5).take 1) = some y5 := (show Tryz.prog.cellsOf 3 = 1 by kernel_rfl) ▸ hy5 ▸ hf 5 _ rfl
  obtain ⟨v5, e5, _, w5⟩ := DataW.trod_int Tryz.underlying3 f5
  obtain ⟨y6, hy6⟩ : ∃ y, xs[6]? = some y := ⟨_, List.getElem?_eq_getElem (by rw [hxl]; exact of_decide_eq_true (by kernel_rfl))⟩
  have f6 : DataW.trod enc Tryz.prog W 0 (fun _ => true) true n 3 ((cs.drop 6).take 1) = some y6 := (show Tryz.prog.cellsOf 3 = 1 by kernel_rfl) ▸ hy6 ▸ hf 6 _ rfl
  obtain ⟨v6, e6, _, w6⟩ := DataW.trod_int Tryz.underlying3 f6
  obtain ⟨y7, hy7⟩ : ∃ y, xs[7]? = some y := ⟨_, List.getElem?_eq_getElem (by rw [hxl]; exact of_decide_eq_true (by kernel_rfl))⟩
  have f7 : DataW.trod enc Tryz.prog W 0 (fun _ => true) true n 3 ((cs.drop 7).take 1) = some y7 := (show Tryz.prog.cellsOf 3 = 1 by kernel_rfl) ▸ hy7 ▸ hf 7 _ rfl
  obtain ⟨v7, e7, _, w7⟩ := DataW.trod_int Tryz.underlying3 f7
  obtain ⟨y8, hy8⟩ : ∃ y, xs[8]? = some y := ⟨_, List.getElem?_eq_getElem (by rw [hxl]; exact of_decide_eq_true (by kernel_rfl))⟩
  have f8 : DataW.trod enc Tryz.prog W 0 (fun _ => true) true n 9 ((cs.drop 8).take 1) = some y8 := (show Tryz.prog.cellsOf 9 = 1 by kernel_rfl) ▸ hy8 ▸ hf 8 _ rfl
  obtain ⟨v8, e8, _, w8⟩ := DataW.trod_string Tryz.underlying9 f8
  obtain ⟨y9, hy9⟩ : ∃ y, xs[9]? = some y := ⟨_, List.getElem?_eq_getElem (by rw [hxl]; exact of_decide_eq_true (by kernel_rfl))⟩
  have f9 : DataW.trod enc Tryz.prog W 0 (fun _ => true) true n 25 ((cs.drop 9).take 10) = some y9 := (show Tryz.prog.cellsOf 25 = 10 by kernel_rfl) ▸ hy9 ▸ hf 9 _ rfl
  obtain ⟨v9, v10, v11, v12, v13, v14, v15, v16, v17, v18, e9, w10, w12, w14, w16, w18⟩ := open_set f9
  obtain ⟨y10, hy10⟩ : ∃ y, xs[10]? = some y := ⟨_, List.getElem?_eq_getElem (by rw [hxl]; exact of_decide_eq_true (by kernel_rfl))⟩
  have f10 : DataW.trod enc Tryz.prog W 0 (fun _ => true) true n 23 ((cs.drop 19).take 2) = some y10 := (show Tryz.prog.cellsOf 23 = 2 by kernel_rfl) ▸ hy10 ▸ hf 10 _ rfl
  obtain ⟨v19, v20, e10, w20⟩ := open_opt f10
  obtain ⟨y11, hy11⟩ : ∃ y, xs[11]? = some y := ⟨_, List.getElem?_eq_getElem (by rw [hxl]; exact of_decide_eq_true (by kernel_rfl))⟩
  have f11 : DataW.trod enc Tryz.prog W 0 (fun _ => true) true n 3 ((cs.drop 21).take 1) = some y11 := (show Tryz.prog.cellsOf 3 = 1 by kernel_rfl) ▸ hy11 ▸ hf 11 _ rfl
  obtain ⟨v21, e11, _, w21⟩ := DataW.trod_int Tryz.underlying3 f11
  obtain ⟨y12, hy12⟩ : ∃ y, xs[12]? = some y := ⟨_, List.getElem?_eq_getElem (by rw [hxl]; exact of_decide_eq_true (by kernel_rfl))⟩
  have f12 : DataW.trod enc Tryz.prog W 0 (fun _ => true) true n 3 ((cs.drop 22).take 1) = some y12 := (show Tryz.prog.cellsOf 3 = 1 by kernel_rfl) ▸ hy12 ▸ hf 12 _ rfl
  obtain ⟨v22, e12, _, w22⟩ := DataW.trod_int Tryz.underlying3 f12
  obtain ⟨y13, hy13⟩ : ∃ y, xs[13]? = some y := ⟨_, List.getElem?_eq_getElem (by rw [hxl]; exact of_decide_eq_true (by kernel_rfl))⟩
  have f13 : DataW.trod enc Tryz.prog W 0 (fun _ => true) true n 9 ((cs.drop 23).take 1) = some y13 := (show Tryz.prog.cellsOf 9 = 1 by kernel_rfl) ▸ hy13 ▸ hf 13 _ rfl
  obtain ⟨v23, e13, _, w23⟩ := DataW.trod_string Tryz.underlying9 f13
  have e : cs = _ := (List.drop_zero (l := cs)).symm.trans (cutL 0 1 1 rfl (cutL 1 1 2 rfl (cutL 2 1 3 rfl (cutL 3 1 4 rfl (cutL 4 1 5 rfl (cutL 5 1 6 rfl (cutL 6 1 7 rfl (cutL 7 1 8 rfl (cutL 8 1 9 rfl (cutL 9 10 19 rfl (cutL 19 2 21 rfl (cutL 21 1 22 rfl (cutL 22 1 23 rfl (cutL 23 1 24 rfl (List.drop_eq_nil_of_le (by omega))))))))))))))))
  rw [e0, e1, e2, e3, e4, e5, e6, e7, e8, e9, e10, e11, e12, e13] at e
  exact ⟨v0, v1, v2, v3, v4, v5, v6, v7, v8, v9, v10, v11, v12, v13, v14, v15, v16, v17, v18, v19, v20, v21, v22, v23, e, w0, w1, w2, w3, w4, w5, w6, w7, w8, w10, w12, w14, w16, w18, w20, w21, w22, w23⟩
set_option maxRecDepth 100000 in
theorem open_wcc {fuel : Nat} {cs : List Value} {x : DataW H × List MemPlace} (h : DataW.trod enc Tryz.prog W 0 (fun _ => true) true fuel 34 cs = some x) :
    ∃ (v0 : Bool) (v1 : Int) (v2 : Bool) (v3 : Int) (v4 : Int) (v5 : Int) (v6 : Int) (v7 : Int) (v8 : Int) (v9 : Int) (v10 : Int) (v11 : Int) (v12 : Int), cs = [.bool v0, .int .i64 v1, .bool v2, .int .i64 v3, .int .i64 v4, .int .i64 v5, .int .i64 v6, .int .i64 v7, .int .i64 v8, .int .i64 v9, .int .i64 v10, .int .i64 v11, .int .i64 v12] ∧ ((Lit.int .i64 v1).wf = true) ∧ ((Lit.int .i64 v3).wf = true) ∧ ((Lit.int .i64 v4).wf = true) ∧ ((Lit.int .i64 v5).wf = true) ∧ ((Lit.int .i64 v6).wf = true) ∧ ((Lit.int .i64 v7).wf = true) ∧ ((Lit.int .i64 v8).wf = true) ∧ ((Lit.int .i64 v9).wf = true) ∧ ((Lit.int .i64 v10).wf = true) ∧ ((Lit.int .i64 v11).wf = true) ∧ ((Lit.int .i64 v12).wf = true) := by
  obtain ⟨xs, n, _, _, hlen, hxl, hf⟩ := DataW.trod_struct Tryz.underlying34 h
  rw [show Tryz.prog.cellsOf 34 = 13 by kernel_rfl] at hlen
  obtain ⟨y0, hy0⟩ : ∃ y, xs[0]? = some y := ⟨_, List.getElem?_eq_getElem (by rw [hxl]; exact of_decide_eq_true (by kernel_rfl))⟩
  have f0 : DataW.trod enc Tryz.prog W 0 (fun _ => true) true n 23 ((cs.drop 0).take 2) = some y0 := (show Tryz.prog.cellsOf 23 = 2 by kernel_rfl) ▸ hy0 ▸ hf 0 _ rfl
  obtain ⟨v0, v1, e0, w1⟩ := open_opt f0
  obtain ⟨y1, hy1⟩ : ∃ y, xs[1]? = some y := ⟨_, List.getElem?_eq_getElem (by rw [hxl]; exact of_decide_eq_true (by kernel_rfl))⟩
  have f1 : DataW.trod enc Tryz.prog W 0 (fun _ => true) true n 32 ((cs.drop 2).take 11) = some y1 := (show Tryz.prog.cellsOf 32 = 11 by kernel_rfl) ▸ hy1 ▸ hf 1 _ rfl
  obtain ⟨v2, v3, v4, v5, v6, v7, v8, v9, v10, v11, v12, e1, w3, w4, w5, w6, w7, w8, w9, w10, w11, w12⟩ := open_post f1
  have e : cs = _ := (List.drop_zero (l := cs)).symm.trans (cutL 0 2 2 rfl (cutL 2 11 13 rfl (List.drop_eq_nil_of_le (by omega))))
  rw [e0, e1] at e
  exact ⟨v0, v1, v2, v3, v4, v5, v6, v7, v8, v9, v10, v11, v12, e, w1, w3, w4, w5, w6, w7, w8, w9, w10, w11, w12⟩
set_option maxRecDepth 100000 in
theorem open_reply {fuel : Nat} {cs : List Value} {x : DataW H × List MemPlace} (h : DataW.trod enc Tryz.prog W 0 (fun _ => true) true fuel 38 cs = some x) :
    ∃ (v0 : Int) (v1 : ByteArray) (v2 : Bool) (v3 : Int) (v4 : Int) (v5 : Int) (v6 : Int) (v7 : Int) (v8 : Int) (v9 : Int) (v10 : Int) (v11 : Int) (v12 : Int) (v13 : Bool) (v14 : Int) (v15 : Int) (v16 : Int) (v17 : Int) (v18 : Int) (v19 : Int) (v20 : Int) (v21 : Int) (v22 : Int) (v23 : Int) (v24 : Bool) (v25 : Int) (v26 : Bool) (v27 : Int) (v28 : Int) (v29 : Int) (v30 : Int) (v31 : Int) (v32 : Int) (v33 : Int) (v34 : Int) (v35 : Int) (v36 : Int) (v37 : Bool) (v38 : Int) (v39 : Bool) (v40 : Int) (v41 : Int) (v42 : Int) (v43 : Int) (v44 : Int) (v45 : Int) (v46 : Int) (v47 : Int) (v48 : Int) (v49 : Int) (v50 : Int) (v51 : Int) (v52 : Bool) (v53 : ByteArray) (v54 : Int) (v55 : Int) (v56 : Option Addr) (v56l v56c : Nat) (v57 : Option Addr) (v57l v57c : Nat), cs = [.int .i64 v0, .string v1, .bool v2, .int .i64 v3, .int .i64 v4, .int .i64 v5, .int .i64 v6, .int .i64 v7, .int .i64 v8, .int .i64 v9, .int .i64 v10, .int .i64 v11, .int .i64 v12, .bool v13, .int .i64 v14, .int .i64 v15, .int .i64 v16, .int .i64 v17, .int .i64 v18, .int .i64 v19, .int .i64 v20, .int .i64 v21, .int .i64 v22, .int .i64 v23, .bool v24, .int .i64 v25, .bool v26, .int .i64 v27, .int .i64 v28, .int .i64 v29, .int .i64 v30, .int .i64 v31, .int .i64 v32, .int .i64 v33, .int .i64 v34, .int .i64 v35, .int .i64 v36, .bool v37, .int .i64 v38, .bool v39, .int .i64 v40, .int .i64 v41, .int .i64 v42, .int .i64 v43, .int .i64 v44, .int .i64 v45, .int .i64 v46, .int .i64 v47, .int .i64 v48, .int .i64 v49, .int .i64 v50, .int .i64 v51, .bool v52, .string v53, .int .i64 v54, .int .i64 v55, .slice v56 v56l v56c, .slice v57 v57l v57c] ∧ ((Lit.int .i64 v0).wf = true) ∧ (v1.size ≤ maxLen) ∧ ((Lit.int .i64 v3).wf = true) ∧ ((Lit.int .i64 v4).wf = true) ∧ ((Lit.int .i64 v5).wf = true) ∧ ((Lit.int .i64 v6).wf = true) ∧ ((Lit.int .i64 v7).wf = true) ∧ ((Lit.int .i64 v8).wf = true) ∧ ((Lit.int .i64 v9).wf = true) ∧ ((Lit.int .i64 v10).wf = true) ∧ ((Lit.int .i64 v11).wf = true) ∧ ((Lit.int .i64 v12).wf = true) ∧ ((Lit.int .i64 v14).wf = true) ∧ ((Lit.int .i64 v15).wf = true) ∧ ((Lit.int .i64 v16).wf = true) ∧ ((Lit.int .i64 v17).wf = true) ∧ ((Lit.int .i64 v18).wf = true) ∧ ((Lit.int .i64 v19).wf = true) ∧ ((Lit.int .i64 v20).wf = true) ∧ ((Lit.int .i64 v21).wf = true) ∧ ((Lit.int .i64 v22).wf = true) ∧ ((Lit.int .i64 v23).wf = true) ∧ ((Lit.int .i64 v25).wf = true) ∧ ((Lit.int .i64 v27).wf = true) ∧ ((Lit.int .i64 v28).wf = true) ∧ ((Lit.int .i64 v29).wf = true) ∧ ((Lit.int .i64 v30).wf = true) ∧ ((Lit.int .i64 v31).wf = true) ∧ ((Lit.int .i64 v32).wf = true) ∧ ((Lit.int .i64 v33).wf = true) ∧ ((Lit.int .i64 v34).wf = true) ∧ ((Lit.int .i64 v35).wf = true) ∧ ((Lit.int .i64 v36).wf = true) ∧ ((Lit.int .i64 v38).wf = true) ∧ ((Lit.int .i64 v40).wf = true) ∧ ((Lit.int .i64 v41).wf = true) ∧ ((Lit.int .i64 v42).wf = true) ∧ ((Lit.int .i64 v43).wf = true) ∧ ((Lit.int .i64 v44).wf = true) ∧ ((Lit.int .i64 v45).wf = true) ∧ ((Lit.int .i64 v46).wf = true) ∧ ((Lit.int .i64 v47).wf = true) ∧ ((Lit.int .i64 v48).wf = true) ∧ ((Lit.int .i64 v49).wf = true) ∧ ((Lit.int .i64 v50).wf = true) ∧ ((Lit.int .i64 v51).wf = true) ∧ (v53.size ≤ maxLen) ∧ ((Lit.int .i64 v54).wf = true) ∧ ((Lit.int .i64 v55).wf = true) ∧ (∃ fu y, DataW.trod enc Tryz.prog W 0 (fun _ => true) true fu 35 [.slice v56 v56l v56c] = some y) ∧ (∃ fu y, DataW.trod enc Tryz.prog W 0 (fun _ => true) true fu 36 [.slice v57 v57l v57c] = some y) := by
  obtain ⟨xs, n, _, _, hlen, hxl, hf⟩ := DataW.trod_struct Tryz.underlying38 h
  rw [show Tryz.prog.cellsOf 38 = 58 by kernel_rfl] at hlen
  obtain ⟨y0, hy0⟩ : ∃ y, xs[0]? = some y := ⟨_, List.getElem?_eq_getElem (by rw [hxl]; exact of_decide_eq_true (by kernel_rfl))⟩
  have f0 : DataW.trod enc Tryz.prog W 0 (fun _ => true) true n 28 ((cs.drop 0).take 1) = some y0 := (show Tryz.prog.cellsOf 28 = 1 by kernel_rfl) ▸ hy0 ▸ hf 0 _ rfl
  obtain ⟨v0, e0, _, w0⟩ := DataW.trod_int Tryz.underlying28 f0
  obtain ⟨y1, hy1⟩ : ∃ y, xs[1]? = some y := ⟨_, List.getElem?_eq_getElem (by rw [hxl]; exact of_decide_eq_true (by kernel_rfl))⟩
  have f1 : DataW.trod enc Tryz.prog W 0 (fun _ => true) true n 9 ((cs.drop 1).take 1) = some y1 := (show Tryz.prog.cellsOf 9 = 1 by kernel_rfl) ▸ hy1 ▸ hf 1 _ rfl
  obtain ⟨v1, e1, _, w1⟩ := DataW.trod_string Tryz.underlying9 f1
  obtain ⟨y2, hy2⟩ : ∃ y, xs[2]? = some y := ⟨_, List.getElem?_eq_getElem (by rw [hxl]; exact of_decide_eq_true (by kernel_rfl))⟩
  have f2 : DataW.trod enc Tryz.prog W 0 (fun _ => true) true n 32 ((cs.drop 2).take 11) = some y2 := (show Tryz.prog.cellsOf 32 = 11 by kernel_rfl) ▸ hy2 ▸ hf 2 _ rfl
  obtain ⟨v2, v3, v4, v5, v6, v7, v8, v9, v10, v11, v12, e2, w3, w4, w5, w6, w7, w8, w9, w10, w11, w12⟩ := open_post f2
  obtain ⟨y3, hy3⟩ : ∃ y, xs[3]? = some y := ⟨_, List.getElem?_eq_getElem (by rw [hxl]; exact of_decide_eq_true (by kernel_rfl))⟩
  have f3 : DataW.trod enc Tryz.prog W 0 (fun _ => true) true n 32 ((cs.drop 13).take 11) = some y3 := (show Tryz.prog.cellsOf 32 = 11 by kernel_rfl) ▸ hy3 ▸ hf 3 _ rfl
  obtain ⟨v13, v14, v15, v16, v17, v18, v19, v20, v21, v22, v23, e3, w14, w15, w16, w17, w18, w19, w20, w21, w22, w23⟩ := open_post f3
  obtain ⟨y4, hy4⟩ : ∃ y, xs[4]? = some y := ⟨_, List.getElem?_eq_getElem (by rw [hxl]; exact of_decide_eq_true (by kernel_rfl))⟩
  have f4 : DataW.trod enc Tryz.prog W 0 (fun _ => true) true n 34 ((cs.drop 24).take 13) = some y4 := (show Tryz.prog.cellsOf 34 = 13 by kernel_rfl) ▸ hy4 ▸ hf 4 _ rfl
  obtain ⟨v24, v25, v26, v27, v28, v29, v30, v31, v32, v33, v34, v35, v36, e4, w25, w27, w28, w29, w30, w31, w32, w33, w34, w35, w36⟩ := open_wcc f4
  obtain ⟨y5, hy5⟩ : ∃ y, xs[5]? = some y := ⟨_, List.getElem?_eq_getElem (by rw [hxl]; exact of_decide_eq_true (by kernel_rfl))⟩
  have f5 : DataW.trod enc Tryz.prog W 0 (fun _ => true) true n 34 ((cs.drop 37).take 13) = some y5 := (show Tryz.prog.cellsOf 34 = 13 by kernel_rfl) ▸ hy5 ▸ hf 5 _ rfl
  obtain ⟨v37, v38, v39, v40, v41, v42, v43, v44, v45, v46, v47, v48, v49, e5, w38, w40, w41, w42, w43, w44, w45, w46, w47, w48, w49⟩ := open_wcc f5
  obtain ⟨y6, hy6⟩ : ∃ y, xs[6]? = some y := ⟨_, List.getElem?_eq_getElem (by rw [hxl]; exact of_decide_eq_true (by kernel_rfl))⟩
  have f6 : DataW.trod enc Tryz.prog W 0 (fun _ => true) true n 3 ((cs.drop 50).take 1) = some y6 := (show Tryz.prog.cellsOf 3 = 1 by kernel_rfl) ▸ hy6 ▸ hf 6 _ rfl
  obtain ⟨v50, e6, _, w50⟩ := DataW.trod_int Tryz.underlying3 f6
  obtain ⟨y7, hy7⟩ : ∃ y, xs[7]? = some y := ⟨_, List.getElem?_eq_getElem (by rw [hxl]; exact of_decide_eq_true (by kernel_rfl))⟩
  have f7 : DataW.trod enc Tryz.prog W 0 (fun _ => true) true n 3 ((cs.drop 51).take 1) = some y7 := (show Tryz.prog.cellsOf 3 = 1 by kernel_rfl) ▸ hy7 ▸ hf 7 _ rfl
  obtain ⟨v51, e7, _, w51⟩ := DataW.trod_int Tryz.underlying3 f7
  obtain ⟨y8, hy8⟩ : ∃ y, xs[8]? = some y := ⟨_, List.getElem?_eq_getElem (by rw [hxl]; exact of_decide_eq_true (by kernel_rfl))⟩
  have f8 : DataW.trod enc Tryz.prog W 0 (fun _ => true) true n 4 ((cs.drop 52).take 1) = some y8 := (show Tryz.prog.cellsOf 4 = 1 by kernel_rfl) ▸ hy8 ▸ hf 8 _ rfl
  obtain ⟨v52, e8, _⟩ := DataW.trod_bool Tryz.underlying4 f8
  obtain ⟨y9, hy9⟩ : ∃ y, xs[9]? = some y := ⟨_, List.getElem?_eq_getElem (by rw [hxl]; exact of_decide_eq_true (by kernel_rfl))⟩
  have f9 : DataW.trod enc Tryz.prog W 0 (fun _ => true) true n 9 ((cs.drop 53).take 1) = some y9 := (show Tryz.prog.cellsOf 9 = 1 by kernel_rfl) ▸ hy9 ▸ hf 9 _ rfl
  obtain ⟨v53, e9, _, w53⟩ := DataW.trod_string Tryz.underlying9 f9
  obtain ⟨y10, hy10⟩ : ∃ y, xs[10]? = some y := ⟨_, List.getElem?_eq_getElem (by rw [hxl]; exact of_decide_eq_true (by kernel_rfl))⟩
  have f10 : DataW.trod enc Tryz.prog W 0 (fun _ => true) true n 3 ((cs.drop 54).take 1) = some y10 := (show Tryz.prog.cellsOf 3 = 1 by kernel_rfl) ▸ hy10 ▸ hf 10 _ rfl
  obtain ⟨v54, e10, _, w54⟩ := DataW.trod_int Tryz.underlying3 f10
  obtain ⟨y11, hy11⟩ : ∃ y, xs[11]? = some y := ⟨_, List.getElem?_eq_getElem (by rw [hxl]; exact of_decide_eq_true (by kernel_rfl))⟩
  have f11 : DataW.trod enc Tryz.prog W 0 (fun _ => true) true n 3 ((cs.drop 55).take 1) = some y11 := (show Tryz.prog.cellsOf 3 = 1 by kernel_rfl) ▸ hy11 ▸ hf 11 _ rfl
  obtain ⟨v55, e11, _, w55⟩ := DataW.trod_int Tryz.underlying3 f11
  obtain ⟨y12, hy12⟩ : ∃ y, xs[12]? = some y := ⟨_, List.getElem?_eq_getElem (by rw [hxl]; exact of_decide_eq_true (by kernel_rfl))⟩
  have f12 : DataW.trod enc Tryz.prog W 0 (fun _ => true) true n 35 ((cs.drop 56).take 1) = some y12 := (show Tryz.prog.cellsOf 35 = 1 by kernel_rfl) ▸ hy12 ▸ hf 12 _ rfl
  obtain ⟨v56, v56l, v56c, e12⟩ : ∃ a l c, (cs.drop 56).take 1 = [.slice a l c] := (by rcases open_slice Tryz.underlying35 f12 with ⟨hcs, _⟩ | ⟨a0, len2, cap2, m, n, D, Pl, hcs, _⟩ <;> exact ⟨_, _, _, hcs⟩)
  obtain ⟨y13, hy13⟩ : ∃ y, xs[13]? = some y := ⟨_, List.getElem?_eq_getElem (by rw [hxl]; exact of_decide_eq_true (by kernel_rfl))⟩
  have f13 : DataW.trod enc Tryz.prog W 0 (fun _ => true) true n 36 ((cs.drop 57).take 1) = some y13 := (show Tryz.prog.cellsOf 36 = 1 by kernel_rfl) ▸ hy13 ▸ hf 13 _ rfl
  obtain ⟨v57, v57l, v57c, e13⟩ : ∃ a l c, (cs.drop 57).take 1 = [.slice a l c] := (by rcases open_slice Tryz.underlying36 f13 with ⟨hcs, _⟩ | ⟨a0, len2, cap2, m, n, D, Pl, hcs, _⟩ <;> exact ⟨_, _, _, hcs⟩)
  have e : cs = _ := (List.drop_zero (l := cs)).symm.trans (cutL 0 1 1 rfl (cutL 1 1 2 rfl (cutL 2 11 13 rfl (cutL 13 11 24 rfl (cutL 24 13 37 rfl (cutL 37 13 50 rfl (cutL 50 1 51 rfl (cutL 51 1 52 rfl (cutL 52 1 53 rfl (cutL 53 1 54 rfl (cutL 54 1 55 rfl (cutL 55 1 56 rfl (cutL 56 1 57 rfl (cutL 57 1 58 rfl (List.drop_eq_nil_of_le (by omega))))))))))))))))
  rw [e0, e1, e2, e3, e4, e5, e6, e7, e8, e9, e10, e11, e12, e13] at e
  exact ⟨v0, v1, v2, v3, v4, v5, v6, v7, v8, v9, v10, v11, v12, v13, v14, v15, v16, v17, v18, v19, v20, v21, v22, v23, v24, v25, v26, v27, v28, v29, v30, v31, v32, v33, v34, v35, v36, v37, v38, v39, v40, v41, v42, v43, v44, v45, v46, v47, v48, v49, v50, v51, v52, v53, v54, v55, v56, v56l, v56c, v57, v57l, v57c, e, w0, w1, w3, w4, w5, w6, w7, w8, w9, w10, w11, w12, w14, w15, w16, w17, w18, w19, w20, w21, w22, w23, w25, w27, w28, w29, w30, w31, w32, w33, w34, w35, w36, w38, w40, w41, w42, w43, w44, w45, w46, w47, w48, w49, w50, w51, w53, w54, w55, ⟨_, _, e12 ▸ f12⟩, ⟨_, _, e13 ▸ f13⟩⟩
theorem slice_len {t e : TypeId} {fuel len cap : Nat} {a : Option Addr} {x : DataW H × List MemPlace} (ht : Tryz.prog.underlying t = some (.slice e)) (h : DataW.trod enc Tryz.prog W 0 (fun _ => true) true fuel t [.slice a len cap] = some x) : len ≤ 9223372036854775807 := by
  rcases open_slice ht h with ⟨hcs, _⟩ | ⟨a0, len', cap', m, n, D, Pl, hcs, _, hl, hm, _⟩
  · cases hcs; omega
  · cases hcs; unfold maxLen at hm; omega
set_option maxRecDepth 100000 in
theorem ent_src {fuel len cap : Nat} {a : Option Addr} {x : DataW H × List MemPlace} (h : DataW.trod enc Tryz.prog W 0 (fun _ => true) true fuel 35 [.slice a len cap] = some x) : EntSrc W a len := by
  have hN : Tryz.prog.cellsOf 75 = 15 := by kernel_rfl
  intro k hk
  rcases open_slice Tryz.underlying35 h with ⟨hcs, _⟩ | ⟨a0, len', cap', m, n, D, Pl, hcs, _, hl, hm, hmm, _, hel⟩
  · cases hcs; omega
  · cases hcs
    simp only [if_true] at hmm
    subst hmm
    rw [hN] at hel
    have hspot : a0.spot = none := by
      obtain ⟨cs', hc0, ht0⟩ := hel 0 (by omega)
      obtain ⟨v0, v1, v2, v3, v4, v5, v6, v7, v8, v9, v10, v11, v12, v13, v14, rfl, _⟩ := open_entry ht0
      obtain ⟨_, _, hcell⟩ := World.cells?_some hc0
      have h0 := hcell 0 (by omega)
      rw [addr_add, show (0 : Nat) * 15 + 0 = 0 from rfl, show a0.add 0 = a0 by unfold Addr.add; simp] at h0
      exact World.cell?_spot h0
    obtain ⟨b, o, sp⟩ := a0
    cases hspot
    obtain ⟨cs', hc0, ht0⟩ := hel k (by omega)
    obtain ⟨v0, v1, v2, v3, v4, v5, v6, v7, v8, v9, v10, v11, v12, v13, v14, rfl, w0, w1, w2, w4, w5, w6, w7, w8, w9, w10, w11, w12, w13, w14⟩ := open_entry ht0
    obtain ⟨_, _, hcell⟩ := World.cells?_some hc0
    have h1 := hcell 1 (by omega)
    have h14 := hcell 14 (by omega)
    rw [addr_add, Addr.add_mid] at h1 h14
    unfold maxLen at w1 w14
    exact ⟨b, o, v1, v14, rfl, h1, h14, by omega, by omega⟩
theorem stepL_mk {C R : List Value} {n m : Int} {u : Option Addr} {ul uc : Nat} (hC : C.length = 24) (hR : R.length = 58) : StepL (C ++ (R ++ [.int .i64 n, .int .i64 m, .slice u ul uc])) C R n m u ul uc := by
  refine ⟨by simp [hC, hR], hC, hR, fun j v hj => ?_, fun j v hj => ?_, ?_, ?_, ?_⟩
  · have := (List.getElem?_eq_some_iff.1 hj).1
    rw [List.getElem?_append_left this]; exact hj
  · have := (List.getElem?_eq_some_iff.1 hj).1
    rw [List.getElem?_append_right (by omega), hC, Nat.add_sub_cancel_left, List.getElem?_append_left this]; exact hj
  · rw [List.getElem?_append_right (by omega), hC, List.getElem?_append_right (by omega), hR]; rfl
  · rw [List.getElem?_append_right (by omega), hC, List.getElem?_append_right (by omega), hR]; rfl
  · rw [List.getElem?_append_right (by omega), hC, List.getElem?_append_right (by omega), hR]; rfl
theorem call_L {fuel : Nat} {cs : List Value} {x : DataW H × List MemPlace} (h : DataW.trod enc Tryz.prog W 0 (fun _ => true) true fuel 27 cs = some x) : CallL cs := by
  obtain ⟨v0, v1, v2, v3, v4, v5, v6, v7, v8, v9, v10, v11, v12, v13, v14, v15, v16, v17, v18, v19, v20, v21, v22, v23, e, w0, w1, w2, w3, w4, w5, w6, w7, w8, w10, w12, w14, w16, w18, w20, w21, w22, w23⟩ := open_call h
  subst e
  exact fun E w L x => callLarge_ok x v0 v1 v2 v3 v4 v5 v6 v7 v8 v9 v10 v11 v12 v13 v14 v15 v16 v17 v18 v19 v20 v21 v22 v23 (by unfold maxLen at w1; omega) (by unfold maxLen at w2; omega) (by unfold maxLen at w3; omega) (by unfold maxLen at w4; omega) (by unfold maxLen at w8; omega) (by unfold maxLen at w23; omega)
theorem reply_L {fuel : Nat} {cs : List Value} {x : DataW H × List MemPlace} (h : DataW.trod enc Tryz.prog W 0 (fun _ => true) true fuel 38 cs = some x) : ∃ (en : Option Addr) (enl : Nat), ReplyL cs en enl ∧ EntSrc W en enl := by
  obtain ⟨v0, v1, v2, v3, v4, v5, v6, v7, v8, v9, v10, v11, v12, v13, v14, v15, v16, v17, v18, v19, v20, v21, v22, v23, v24, v25, v26, v27, v28, v29, v30, v31, v32, v33, v34, v35, v36, v37, v38, v39, v40, v41, v42, v43, v44, v45, v46, v47, v48, v49, v50, v51, v52, v53, v54, v55, v56, v56l, v56c, v57, v57l, v57c, e, w0, w1, w3, w4, w5, w6, w7, w8, w9, w10, w11, w12, w14, w15, w16, w17, w18, w19, w20, w21, w22, w23, w25, w27, w28, w29, w30, w31, w32, w33, w34, w35, w36, w38, w40, w41, w42, w43, w44, w45, w46, w47, w48, w49, w50, w51, w53, w54, w55, w56, w57⟩ := open_reply h
  subst e
  obtain ⟨_, _, hte⟩ := w56
  obtain ⟨_, _, htn⟩ := w57
  exact ⟨v56, v56l, fun E w L x he => replyLarge_ok x v0 v1 v2 v3 v4 v5 v6 v7 v8 v9 v10 v11 v12 v13 v14 v15 v16 v17 v18 v19 v20 v21 v22 v23 v24 v25 v26 v27 v28 v29 v30 v31 v32 v33 v34 v35 v36 v37 v38 v39 v40 v41 v42 v43 v44 v45 v46 v47 v48 v49 v50 v51 v52 v53 v54 v55 v56 v56l v56c v57 v57l v57c (by unfold maxLen at w1; omega) (by unfold maxLen at w53; omega) he (slice_len Tryz.underlying35 hte) (slice_len Tryz.underlying36 htn), ent_src hte⟩
theorem step_open {fuel : Nat} {cs : List Value} {x : DataW H × List MemPlace} (h : DataW.trod enc Tryz.prog W 0 (fun _ => true) true fuel 41 cs = some x) :
    ∃ (C R : List Value) (n m : Int) (u en : Option Addr) (ul uc enl : Nat), StepL cs C R n m u ul uc ∧ CallL C ∧ ReplyL R en enl ∧ EntSrc W en enl ∧ ul ≤ 9223372036854775807 := by
  obtain ⟨xs, k, _, _, hlen, hxl, hf⟩ := DataW.trod_struct Tryz.underlying41 h
  rw [show Tryz.prog.cellsOf 41 = 85 by kernel_rfl] at hlen
  obtain ⟨y0, hy0⟩ : ∃ y, xs[0]? = some y := ⟨_, List.getElem?_eq_getElem (by rw [hxl]; exact of_decide_eq_true (by kernel_rfl))⟩
  have f0 : DataW.trod enc Tryz.prog W 0 (fun _ => true) true k 27 ((cs.drop 0).take 24) = some y0 := (show Tryz.prog.cellsOf 27 = 24 by kernel_rfl) ▸ hy0 ▸ hf 0 _ rfl
  obtain ⟨y1, hy1⟩ : ∃ y, xs[1]? = some y := ⟨_, List.getElem?_eq_getElem (by rw [hxl]; exact of_decide_eq_true (by kernel_rfl))⟩
  have f1 : DataW.trod enc Tryz.prog W 0 (fun _ => true) true k 38 ((cs.drop 24).take 58) = some y1 := (show Tryz.prog.cellsOf 38 = 58 by kernel_rfl) ▸ hy1 ▸ hf 1 _ rfl
  obtain ⟨y2, hy2⟩ : ∃ y, xs[2]? = some y := ⟨_, List.getElem?_eq_getElem (by rw [hxl]; exact of_decide_eq_true (by kernel_rfl))⟩
  have f2 : DataW.trod enc Tryz.prog W 0 (fun _ => true) true k 3 ((cs.drop 82).take 1) = some y2 := (show Tryz.prog.cellsOf 3 = 1 by kernel_rfl) ▸ hy2 ▸ hf 2 _ rfl
  obtain ⟨y3, hy3⟩ : ∃ y, xs[3]? = some y := ⟨_, List.getElem?_eq_getElem (by rw [hxl]; exact of_decide_eq_true (by kernel_rfl))⟩
  have f3 : DataW.trod enc Tryz.prog W 0 (fun _ => true) true k 3 ((cs.drop 83).take 1) = some y3 := (show Tryz.prog.cellsOf 3 = 1 by kernel_rfl) ▸ hy3 ▸ hf 3 _ rfl
  obtain ⟨y4, hy4⟩ : ∃ y, xs[4]? = some y := ⟨_, List.getElem?_eq_getElem (by rw [hxl]; exact of_decide_eq_true (by kernel_rfl))⟩
  have f4 : DataW.trod enc Tryz.prog W 0 (fun _ => true) true k 39 ((cs.drop 84).take 1) = some y4 := (show Tryz.prog.cellsOf 39 = 1 by kernel_rfl) ▸ hy4 ▸ hf 4 _ rfl
  obtain ⟨n, e2, _, _⟩ := DataW.trod_int Tryz.underlying3 f2
  obtain ⟨m, e3, _, _⟩ := DataW.trod_int Tryz.underlying3 f3
  obtain ⟨u, ul, uc, e4⟩ : ∃ a l c, (cs.drop 84).take 1 = [.slice a l c] := (by rcases open_slice Tryz.underlying39 f4 with ⟨hcs, _⟩ | ⟨a0, len2, cap2, m, n, D, Pl, hcs, _⟩ <;> exact ⟨_, _, _, hcs⟩)
  have e : cs = _ := (List.drop_zero (l := cs)).symm.trans (cutL 0 24 24 rfl (cutL 24 58 82 rfl (cutL 82 1 83 rfl (cutL 83 1 84 rfl (cutL 84 1 85 rfl (List.drop_eq_nil_of_le (by omega)))))))
  rw [e2, e3, e4] at e
  rw [e4] at f4
  obtain ⟨en, enl, hrl, he⟩ := reply_L f1
  refine ⟨(cs.drop 0).take 24, (cs.drop 24).take 58, n, m, u, en, ul, uc, enl, ?_, call_L f0, hrl, he, slice_len Tryz.underlying39 f4⟩
  have h := stepL_mk (C := (cs.drop 0).take 24) (R := (cs.drop 24).take 58) (n := n) (m := m) (u := u) (ul := ul) (uc := uc) (by simp [hlen]) (by simp [hlen])
  exact (congrArg (fun z => StepL z ((cs.drop 0).take 24) ((cs.drop 24).take 58) n m u ul uc) e).mpr h
end
end Go.Proofs.YtmpfckdagibfiaaGreatDoor
