/-
  Arguments that are heads, slices of heads, slices of bytes, slices of slices of integers, opened to what their cells read as.
-/
import Derived.Laws.IdiomArrays
import Derived.Test.YtmkpglabiikdeaaOpenSteps
import Derived.Test.YtmkpglabiikdeaaHeadP
namespace Go.Proofs.Ytmkpglabiikdeaa
open Go.ChangeShapes Go.WideShapes Go.RowKit Go.Deep PH

def Hd.list (p : Hd) : List Value := [.int .i64 p.gen, .int .i64 p.epoch, .int .i64 p.since, .int .i64 p.area, .int .i64 p.size, .int .i64 p.next, .int .i64 p.pos]
def hds (l : List Hd) : List Value := l.flatMap Hd.list
theorem hds_length : ∀ l : List Hd, (hds l).length = l.length * 7
  | [] => rfl
  | p :: l => by
    have := hds_length l
    unfold hds at *
    rw [List.flatMap_cons, List.length_append, this, List.length_cons, Nat.succ_mul]
    show 7 + _ = _
    omega
theorem inI_wf {n : Int} (h : (Lit.int .i64 n).wf = true) : inI n := ⟨(bounds_i64 h).1, (bounds_i64 h).2⟩

section
variable {H : Type} {enc : TypeId × Value → H} {W : World}

set_option maxRecDepth 100000 in
theorem head_cells {fuel : Nat} {cs : List Value} {x : DataW H × List MemPlace} (h : DataW.trod enc Try.prog W 0 (fun _ => true) true fuel 85 cs = some x) : ∃ p : Hd, cs = p.list ∧ p.Int64 := by
  obtain ⟨xs, n, _, _, hlen, hxl, hf⟩ := DataW.trod_struct Try.underlying85 h
  have hc7 : Try.prog.cellsOf 85 = 7 := by kernel_rfl
  rw [hc7] at hlen
  match cs, hlen, xs, hxl with
  | [c0, c1, c2, c3, c4, c5, c6], _, [y0, y1, y2, y3, y4, y5, y6], _ =>
    have f0 := hf 0 _ rfl
    have f1 := hf 1 _ rfl
    have f2 := hf 2 _ rfl
    have f3 := hf 3 _ rfl
    have f4 := hf 4 _ rfl
    have f5 := hf 5 _ rfl
    have f6 := hf 6 _ rfl
    simp only [List.getElem?_cons_zero, List.getElem?_cons_succ] at f0 f1 f2 f3 f4 f5 f6
    obtain ⟨n0, e0, _, w0⟩ := DataW.trod_int Try.underlying3 f0
    obtain ⟨n1, e1, _, w1⟩ := DataW.trod_int Try.underlying3 f1
    obtain ⟨n2, e2, _, w2⟩ := DataW.trod_int Try.underlying3 f2
    obtain ⟨n3, e3, _, w3⟩ := DataW.trod_int Try.underlying3 f3
    obtain ⟨n4, e4, _, w4⟩ := DataW.trod_int Try.underlying3 f4
    obtain ⟨n5, e5, _, w5⟩ := DataW.trod_int Try.underlying3 f5
    obtain ⟨n6, e6, _, w6⟩ := DataW.trod_int Try.underlying3 f6
    cases e0; cases e1; cases e2; cases e3; cases e4; cases e5; cases e6
    exact ⟨⟨n0, n1, n2, n3, n4, n5, n6⟩, rfl, ⟨inI_wf w0, inI_wf w1, inI_wf w2, inI_wf w3, inI_wf w4, inI_wf w5, inI_wf w6⟩⟩

set_option maxRecDepth 100000 in
theorem open_heads {fuel len cap : Nat} {a : Option Addr} {x : DataW H × List MemPlace} (h : DataW.trod enc Try.prog W 0 (fun _ => true) true fuel 101 [.slice a len cap] = some x) :
    ∃ l : List Hd, l.length = len ∧ Sees W a (hds l) ∧ (∀ p ∈ l, p.Int64) ∧ len ≤ maxLen := by
  have hc7 : Try.prog.cellsOf 85 = 7 := by kernel_rfl
  rcases open_slice Try.underlying101 h with ⟨hcs, _⟩ | ⟨a0, len', cap', m, n, D, Pl, hcs, _, hl, hm, hmm, _, hel⟩
  · cases hcs
    exact ⟨[], rfl, fun j u hj => by simp [hds] at hj, fun p hp => (by cases hp), by unfold maxLen; omega⟩
  · cases hcs
    simp only [if_true] at hmm
    subst hmm
    rw [hc7] at hel
    have hx : ∀ i, i < len → ∃ p : Hd, (∀ j u, p.list[j]? = some u → W.cell? ((a0.add (i * 7)).add j) = some u) ∧ p.Int64 := by
      intro i hi
      obtain ⟨cs', hc0, ht0⟩ := hel i (by omega)
      obtain ⟨p, rfl, h64⟩ := head_cells ht0
      obtain ⟨_, _, hcell⟩ := World.cells?_some hc0
      refine ⟨p, fun j u hj => ?_, h64⟩
      have hj5 : j < 7 := (List.getElem?_eq_some_iff.1 hj).1
      rw [hcell j hj5, hj]
    obtain ⟨f, hf⟩ : ∃ f : Nat → Hd, ∀ i, i < len → (∀ j u, (f i).list[j]? = some u → W.cell? ((a0.add (i * 7)).add j) = some u) ∧ (f i).Int64 := by
      classical
      refine ⟨fun i => if hi : i < len then (hx i hi).choose else ⟨0, 0, 0, 0, 0, 0, 0⟩, fun i hi => ?_⟩
      simp only [dif_pos hi]
      exact (hx i hi).choose_spec
    refine ⟨(List.range len).map f, by simp, ?_, fun p hp => ?_, Nat.le_trans hl hm⟩
    · intro j u hj
      have hjl : j < len * 7 := by
        have := (List.getElem?_eq_some_iff.1 hj).1
        rw [hds_length] at this
        simpa using this
      have hi : j / 7 < len := by omega
      have e : j / 7 * 7 + j % 7 = j := by omega
      have h1 := flat5 Hd.list 7 (fun _ => rfl) ((List.range len).map f) (j / 7) (j % 7) (f (j / 7)) (by simp [hi]) (by omega)
      rw [e] at h1
      have h2 := (hf (j / 7) hi).1 (j % 7) u (by rw [← h1]; exact hj)
      obtain ⟨b, off, spot⟩ := a0
      obtain rfl : spot = none := by simpa [Addr.add] using World.cell?_spot ((hf 0 (by omega)).1 0 (.int .i64 (f 0).gen) rfl)
      refine ⟨b, off, rfl, ?_⟩
      rw [add_plain, add_plain, Nat.add_assoc, e] at h2
      exact h2
    · obtain ⟨i, hi, rfl⟩ := List.mem_map.1 hp
      exact (hf i (List.mem_range.1 hi)).2
/-- A slice reads as these bytes. -/
def SeesB (W : World) (a : Option Addr) (zs : List Int) : Prop := ∀ (j : Nat) (u : Int), zs[j]? = some u → ∃ b off, a = some ⟨b, off, none⟩ ∧ W.cell? ⟨b, off + j, none⟩ = some (.int .u8 u)

set_option maxRecDepth 100000 in
theorem open_u8s {fuel len cap : Nat} {a : Option Addr} {x : DataW H × List MemPlace} (h : DataW.trod enc Try.prog W 0 (fun _ => true) true fuel 96 [.slice a len cap] = some x) :
    ∃ zs : List Int, zs.length = len ∧ SeesB W a zs ∧ (∀ z ∈ zs, 0 ≤ z ∧ z ≤ 255) ∧ len ≤ maxLen := by
  have hc1 : Try.prog.cellsOf 5 = 1 := by kernel_rfl
  rcases open_slice Try.underlying96 h with ⟨hcs, _⟩ | ⟨a0, len', cap', m, n, D, Pl, hcs, _, hl, hm, hmm, _, hel⟩
  · cases hcs
    exact ⟨[], rfl, fun j u hj => by simp at hj, fun z hz => (by cases hz), by unfold maxLen; omega⟩
  · cases hcs
    simp only [if_true] at hmm
    subst hmm
    rw [hc1] at hel
    have hx : ∀ i, i < len → ∃ z : Int, W.cell? (a0.add (i * 1)) = some (.int .u8 z) ∧ 0 ≤ z ∧ z ≤ 255 := by
      intro i hi
      obtain ⟨cs', hc0, ht0⟩ := hel i (by omega)
      obtain ⟨_, _, hcell⟩ := World.cells?_some hc0
      obtain ⟨z, rfl, _, hw⟩ := DataW.trod_int Try.underlying5 ht0
      refine ⟨z, ?_, ?_⟩
      · have := hcell 0 (by omega)
        simpa [Addr.add] using this
      · exact bounds_u8 hw
    obtain ⟨f, hf⟩ : ∃ f : Nat → Int, ∀ i, i < len → W.cell? (a0.add (i * 1)) = some (.int .u8 (f i)) ∧ 0 ≤ f i ∧ f i ≤ 255 := by
      classical
      refine ⟨fun i => if hi : i < len then (hx i hi).choose else 0, fun i hi => ?_⟩
      simp only [dif_pos hi]
      exact (hx i hi).choose_spec
    refine ⟨(List.range len).map f, by simp, ?_, fun z hz => ?_, Nat.le_trans hl hm⟩
    · intro j u hj
      have hjl : j < len := by
        have := (List.getElem?_eq_some_iff.1 hj).1
        simpa using this
      have hu : f j = u := by simpa [hjl] using hj
      subst hu
      obtain ⟨b, off, spot⟩ := a0
      have h0 := (hf j hjl).1
      obtain rfl : spot = none := by simpa [Addr.add] using World.cell?_spot (hf 0 (by omega)).1
      refine ⟨b, off, rfl, ?_⟩
      rw [add_plain, Nat.mul_one] at h0
      exact h0
    · obtain ⟨i, hi, rfl⟩ := List.mem_map.1 hz
      exact (hf i (List.mem_range.1 hi)).2
theorem okWide_array {P : Program} {w : World} {r : Reach} {base : Nat} {t e : TypeId} {n : Nat} {v : Value} (ht : P.underlying t = some (.array n e)) (h : Value.okWide P w r base t v) : ∃ cs, v = .agg cs ∧ cs.size = P.cellsOf t := by
  simp only [Value.okWide, ht] at h
  obtain ⟨cs, h1, h2, _⟩ := h
  exact ⟨cs, h1, h2⟩

set_option maxRecDepth 100000 in
theorem x4_cells {fuel : Nat} {cs : Array Value} {x : DataW H × List MemPlace} (hn : cs.size = Try.prog.cellsOf 95) (h : DataW.trod enc Try.prog W 0 (fun _ => true) true fuel 95 (Value.agg cs).cells.toList = some x) :
    ∃ x0 x1 x2 x3 : Nat, x0 < 256 ∧ x1 < 256 ∧ x2 < 256 ∧ x3 < 256 ∧ cs = #[.int .u8 x0, .int .u8 x1, .int .u8 x2, .int .u8 x3] := by
  have hc : Try.prog.cellsOf 95 = 4 := by kernel_rfl
  rw [hc] at hn
  obtain ⟨l⟩ := cs
  simp only [Value.cells] at h
  match l, hn, h with
  | [c0, c1, c2, c3], _, h =>
    obtain ⟨y0, y1, y2, y3, n, _, f0, f1, f2, f3⟩ := trod_array4 Try.underlying95 (by kernel_rfl) h
    obtain ⟨n0, e0, _, w0⟩ := DataW.trod_int Try.underlying5 f0
    obtain ⟨n1, e1, _, w1⟩ := DataW.trod_int Try.underlying5 f1
    obtain ⟨n2, e2, _, w2⟩ := DataW.trod_int Try.underlying5 f2
    obtain ⟨n3, e3, _, w3⟩ := DataW.trod_int Try.underlying5 f3
    cases e0; cases e1; cases e2; cases e3
    have b0 := bounds_u8 w0
    have b1 := bounds_u8 w1
    have b2 := bounds_u8 w2
    have b3 := bounds_u8 w3
    refine ⟨n0.toNat, n1.toNat, n2.toNat, n3.toNat, by omega, by omega, by omega, by omega, ?_⟩
    rw [Int.toNat_of_nonneg b0.1, Int.toNat_of_nonneg b1.1, Int.toNat_of_nonneg b2.1, Int.toNat_of_nonneg b3.1]
end
end Go.Proofs.Ytmkpglabiikdeaa
