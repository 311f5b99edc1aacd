/-
  An argument that is a slice of steps of layer 10 (each with a slice of integers), opened to the list that its cells read as.
-/
import Derived.Test.YtmkpglabiikdeaaOpenPieces
import Derived.OpenShut
import Derived.Test.YtmkpglabiikdeaaDiskS
namespace Go.Proofs.Ytmkpglabiikdeaa
open Go.ChangeShapes Go.WideShapes Go.RowKit Go.Deep PH

theorem i64_le {n : Int} (h : (Lit.int .i64 n).wf = true) : n ≤ 9223372036854775807 := (bounds_i64 h).2

structure Sq where
  t : St
  a : Option Addr
  c : Nat
def Sq.cells (x : Sq) : List Value := [.int .i64 x.t.kind, .int .i64 x.t.i, .string x.t.s, .slice x.a x.t.keep.length x.c]
def sqs (l : List Sq) : List Value := l.flatMap Sq.cells
theorem sqs_length : ∀ l : List Sq, (sqs l).length = l.length * 4
  | [] => rfl
  | p :: l => by
    have := sqs_length l
    unfold sqs at *
    rw [List.flatMap_cons, List.length_append, this, List.length_cons, Nat.succ_mul]
    show 4 + _ = _
    omega

section
variable {H : Type} {enc : TypeId × Value → H} {W : World}

set_option maxRecDepth 100000 in
theorem open_ints {fuel len cap : Nat} {a : Option Addr} {x : DataW H × List MemPlace} (h : DataW.trod enc Try.prog W 0 (fun _ => true) true fuel 42 [.slice a len cap] = some x) :
    ∃ zs : List Int, zs.length = len ∧ SeesI W a zs ∧ len ≤ maxLen := by
  have hc1 : Try.prog.cellsOf 3 = 1 := by kernel_rfl
  rcases open_slice Try.underlying42 h with ⟨hcs, _⟩ | ⟨a0, len', cap', m, n, D, Pl, hcs, _, hl, hm, hmm, _, hel⟩
  · cases hcs
    exact ⟨[], rfl, fun j u hj => by simp at hj, by unfold maxLen; omega⟩
  · cases hcs
    simp only [if_true] at hmm
    subst hmm
    rw [hc1] at hel
    have hx : ∀ i, i < len → ∃ z : Int, W.cell? (a0.add (i * 1)) = some (.int .i64 z) := by
      intro i hi
      obtain ⟨cs', hc0, ht0⟩ := hel i (by omega)
      obtain ⟨_, _, hcell⟩ := World.cells?_some hc0
      have hlen : cs'.length = 1 := by
        have := World.cells?_some hc0
        simp_all
      match cs', hlen, ht0, hcell with
      | [c0], _, ht0, hcell =>
        obtain ⟨n0, e0, _, _⟩ := DataW.trod_int Try.underlying3 ht0
        cases e0
        refine ⟨n0, ?_⟩
        have := hcell 0 (by omega)
        simpa [Addr.add] using this
    obtain ⟨f, hf⟩ : ∃ f : Nat → Int, ∀ i, i < len → W.cell? (a0.add (i * 1)) = some (.int .i64 (f i)) := by
      classical
      refine ⟨fun i => if hi : i < len then (hx i hi).choose else 0, fun i hi => ?_⟩
      simp only [dif_pos hi]
      exact (hx i hi).choose_spec
    refine ⟨(List.range len).map f, by simp, ?_, Nat.le_trans hl hm⟩
    intro j u hj
    have hjl : j < len := by
      have := (List.getElem?_eq_some_iff.1 hj).1
      simpa using this
    have hu : f j = u := by simpa [hjl] using hj
    subst hu
    obtain ⟨b, off, spot⟩ := a0
    have h0 := hf j hjl
    obtain rfl : spot = none := by simpa [Addr.add] using World.cell?_spot (hf 0 (by omega))
    refine ⟨b, off, rfl, ?_⟩
    rw [add_plain, Nat.mul_one] at h0
    exact h0

set_option maxRecDepth 100000 in
theorem step_cells {fuel : Nat} {cs : List Value} {x : DataW H × List MemPlace} (h : DataW.trod enc Try.prog W 0 (fun _ => true) true fuel 49 cs = some x) :
    ∃ p : Sq, cs = p.cells ∧ SeesI W p.a p.t.keep ∧ p.t.keep.length ≤ maxLen ∧ p.t.s.size ≤ maxLen ∧ p.t.i ≤ 9223372036854775807 := by
  obtain ⟨xs, n, _, _, hlen, hxl, hf⟩ := DataW.trod_struct Try.underlying49 h
  have hc5 : Try.prog.cellsOf 49 = 4 := by kernel_rfl
  rw [hc5] at hlen
  match cs, hlen, xs, hxl with
  | [c0, c1, c2, c3], _, [y0, y1, y2, y3], _ =>
    have f0 := hf 0 _ rfl
    have f1 := hf 1 _ rfl
    have f2 := hf 2 _ rfl
    have f3 := hf 3 _ rfl
    simp only [List.getElem?_cons_zero, List.getElem?_cons_succ] at f0 f1 f2 f3
    obtain ⟨n0, e0, _, _⟩ := DataW.trod_int Try.underlying3 f0
    obtain ⟨n1, e1, _, hw1⟩ := DataW.trod_int Try.underlying3 f1
    obtain ⟨n2, e2, _, hz2⟩ := DataW.trod_string Try.underlying9 f2
    cases e0; cases e1; cases e2
    obtain ⟨a, len, cap, rfl⟩ : ∃ a len cap, c3 = .slice a len cap := by
      rcases open_slice Try.underlying42 f3 with ⟨hcs, _⟩ | ⟨a0, len', cap', m, n, D, Pl, hcs, _⟩
      · cases hcs; exact ⟨_, _, _, rfl⟩
      · cases hcs; exact ⟨_, _, _, rfl⟩
    obtain ⟨zs, rfl, hsee, hmax⟩ := open_ints f3
    exact ⟨⟨⟨n0, n1, n2, zs⟩, a, cap⟩, rfl, hsee, hmax, hz2, i64_le hw1⟩

set_option maxRecDepth 100000 in
theorem open_steps {fuel len cap : Nat} {a : Option Addr} {x : DataW H × List MemPlace} (h : DataW.trod enc Try.prog W 0 (fun _ => true) true fuel 41 [.slice a len cap] = some x) :
    ∃ l : List Sq, l.length = len ∧ Sees W a (sqs l) ∧ (∀ x ∈ l, SeesI W x.a x.t.keep ∧ x.t.keep.length ≤ maxLen ∧ x.t.s.size ≤ maxLen ∧ x.t.i ≤ 9223372036854775807) ∧ len ≤ maxLen := by
  have hc5 : Try.prog.cellsOf 49 = 4 := by kernel_rfl
  rcases open_slice Try.underlying41 h with ⟨hcs, _⟩ | ⟨a0, len', cap', m, n, D, Pl, hcs, _, hl, hm, hmm, _, hel⟩
  · cases hcs
    exact ⟨[], rfl, fun j u hj => by simp [sqs] at hj, fun x hx => by simp at hx, by unfold maxLen; omega⟩
  · cases hcs
    simp only [if_true] at hmm
    subst hmm
    rw [hc5] at hel
    have hx : ∀ i, i < len → ∃ p : Sq, (∀ j u, p.cells[j]? = some u → W.cell? ((a0.add (i * 4)).add j) = some u) ∧ SeesI W p.a p.t.keep ∧ p.t.keep.length ≤ maxLen ∧ p.t.s.size ≤ maxLen ∧ p.t.i ≤ 9223372036854775807 := by
      intro i hi
      obtain ⟨cs', hc0, ht0⟩ := hel i (by omega)
      obtain ⟨p, rfl, h1, h2, h3⟩ := step_cells ht0
      obtain ⟨_, _, hcell⟩ := World.cells?_some hc0
      refine ⟨p, fun j u hj => ?_, h1, h2, h3⟩
      have hj5 : j < 4 := (List.getElem?_eq_some_iff.1 hj).1
      rw [hcell j hj5, hj]
    obtain ⟨f, hf⟩ : ∃ f : Nat → Sq, ∀ i, i < len → (∀ j u, (f i).cells[j]? = some u → W.cell? ((a0.add (i * 4)).add j) = some u) ∧ SeesI W (f i).a (f i).t.keep ∧ (f i).t.keep.length ≤ maxLen ∧ (f i).t.s.size ≤ maxLen ∧ (f i).t.i ≤ 9223372036854775807 := by
      classical
      refine ⟨fun i => if hi : i < len then (hx i hi).choose else ⟨⟨0, 0, ByteArray.empty, []⟩, none, 0⟩, fun i hi => ?_⟩
      simp only [dif_pos hi]
      exact (hx i hi).choose_spec
    refine ⟨(List.range len).map f, by simp, ?_, ?_, Nat.le_trans hl hm⟩
    · intro j u hj
      have hjl : j < len * 4 := by
        have := (List.getElem?_eq_some_iff.1 hj).1
        rw [sqs_length] at this
        simpa using this
      have hi : j / 4 < len := by omega
      have e : j / 4 * 4 + j % 4 = j := by omega
      have h1 := flat5 Sq.cells 4 (fun _ => rfl) ((List.range len).map f) (j / 4) (j % 4) (f (j / 4)) (by simp [hi]) (by omega)
      rw [e] at h1
      have h2 := (hf (j / 4) hi).1 (j % 4) u (by rw [← h1]; exact hj)
      obtain ⟨b, off, spot⟩ := a0
      obtain rfl : spot = none := by simpa [Addr.add] using World.cell?_spot ((hf 0 (by omega)).1 0 (.int .i64 (f 0).t.kind) rfl)
      refine ⟨b, off, rfl, ?_⟩
      rw [add_plain, add_plain, Nat.add_assoc, e] at h2
      exact h2
    · intro x hx
      obtain ⟨i, hi, rfl⟩ := List.mem_map.1 hx
      exact (hf i (List.mem_range.1 hi)).2
end
theorem Sees.step {w : World} {a : Option Addr} {l : List Sq} (h : Sees w a (sqs l)) {k : Nat} {x : Sq} (hk : l[k]? = some x) :
    ∃ b off, a = some ⟨b, off, none⟩ ∧ w.cell? ⟨b, off + k * 4, none⟩ = some (.int .i64 x.t.kind) ∧ w.cell? ⟨b, off + k * 4 + 1, none⟩ = some (.int .i64 x.t.i) ∧
      w.cell? ⟨b, off + k * 4 + 2, none⟩ = some (.string x.t.s) ∧ w.cell? ⟨b, off + k * 4 + 3, none⟩ = some (.slice x.a x.t.keep.length x.c) := by
  have g : ∀ j, j < 4 → (sqs l)[k * 4 + j]? = x.cells[j]? := fun j hj => flat5 Sq.cells 4 (fun _ => rfl) l k j x hk hj
  obtain ⟨b, off, rfl, h0⟩ := h _ _ (g 0 (by omega))
  refine ⟨b, off, rfl, h0, ?_, ?_, ?_⟩
  · obtain ⟨b', off', e, h1⟩ := h _ _ (g 1 (by omega)); cases e; exact h1
  · obtain ⟨b', off', e, h1⟩ := h _ _ (g 2 (by omega)); cases e; exact h1
  · obtain ⟨b', off', e, h1⟩ := h _ _ (g 3 (by omega)); cases e; exact h1
theorem Sees.kept {w w' : World} {a : Option Addr} {cs : List Value} (h : Sees w a cs) (hb : Below w.heap.size w w') : Sees w' a cs := fun j u hj => by
  obtain ⟨b, off, rfl, hc⟩ := h j u hj
  exact ⟨b, off, rfl, PH.kept hb hc⟩
theorem SeesI.kept {w w' : World} {a : Option Addr} {zs : List Int} (h : SeesI w a zs) (hb : Below w.heap.size w w') : SeesI w' a zs := fun j u hj => by
  obtain ⟨b, off, rfl, hc⟩ := h j u hj
  exact ⟨b, off, rfl, PH.kept hb hc⟩
end Go.Proofs.Ytmkpglabiikdeaa
