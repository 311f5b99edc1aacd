/-
  Layer 13's steps: an argument []Step opened to what its cells read as; the disk behind steps.
-/
import Derived.ProofKit
import Derived.Deep.Slices
import Derived.Deep.Fields
import Derived.OpenShut
import Derived.Test.YtmkpglabiikdeaaGreatRows
import Derived.Test.YtmkpglabiikdeaaGreatRange
import Derived.Test.YtmkpglabiikdeaaGreatHeadK
import Derived.Test.YtmkpglabiikdeaaGreatHeadV
import Derived.Test.YtmkpglabiikdeaaGreatRefC
namespace Go.Proofs.YtmkpglabiikdeaaGreat
open Go.ChangeShapes Go.WideShapes Go.RowKit Go.Deep PH

/-- The cells from a slice's address on read as the list. -/
def Sees (w : World) (a : Option Addr) (cs : List Value) : Prop := ∀ j u, cs[j]? = some u → ∃ b off, a = some ⟨b, off, none⟩ ∧ w.cell? ⟨b, off + j, none⟩ = some u

theorem flat5 {α β : Type} (f : α → List β) (k : Nat) (hf : ∀ x, (f x).length = k) : ∀ (l : List α) (i j : Nat) (x : α), l[i]? = some x → j < k → (l.flatMap f)[i * k + j]? = (f x)[j]?
  | y :: l, 0, j, x, h, hj => by
    simp at h; subst h
    rw [List.flatMap_cons, Nat.zero_mul, Nat.zero_add, List.getElem?_append_left (by rw [hf]; exact hj)]
  | y :: l, i + 1, j, x, h, hj => by
    rw [List.flatMap_cons, List.getElem?_append_right (by rw [hf, Nat.succ_mul]; omega), hf]
    have e : (i + 1) * k + j - k = i * k + j := by rw [Nat.succ_mul]; omega
    rw [e]
    exact flat5 f k hf l i j x (by simpa using h) hj

theorem add_plain (b off k : Nat) : (⟨b, off, none⟩ : Addr).add k = ⟨b, off + k, none⟩ := by unfold Addr.add; split <;> simp_all
theorem i64_le {n : Int} (h : (Lit.int .i64 n).wf = true) : n ≤ 9223372036854775807 := (bounds_i64 h).2
theorem inI_wf {n : Int} (h : (Lit.int .i64 n).wf = true) : inI n := ⟨(bounds_i64 h).1, (bounds_i64 h).2⟩
def Hd.list (p : Hd) : List Value := [.int .i64 p.gen, .int .i64 p.epoch, .int .i64 p.since, .int .i64 p.area, .int .i64 p.size, .int .i64 p.next, .int .i64 p.pos]

/-- A step of layer 13. -/
structure Pq where
  kind : Int
  i : Int
  s : ByteArray
  keep : List Int
  h : Hd
  a : Option Addr
  c : Nat
def Pq.cells (x : Pq) : List Value := [.int .i64 x.kind, .int .i64 x.i, .string x.s, .slice x.a x.keep.length x.c] ++ x.h.list
def pqs (l : List Pq) : List Value := l.flatMap Pq.cells
theorem pqs_length : ∀ l : List Pq, (pqs l).length = l.length * 11
  | [] => rfl
  | p :: l => by
    have := pqs_length l
    unfold pqs at *
    rw [List.flatMap_cons, List.length_append, this, List.length_cons, Nat.succ_mul]
    show 11 + _ = _
    omega
/-- What is so of each step of an argument. -/
def Pq.ok (W : World) (x : Pq) : Prop := SeesI W x.a x.keep ∧ x.keep.length ≤ maxLen ∧ x.s.size ≤ maxLen ∧ x.i ≤ 9223372036854775807 ∧ x.h.Int64

section
variable {H : Type} {enc : TypeId × Value → H} {W : World}

set_option maxRecDepth 100000 in
theorem open_ints {fuel len cap : Nat} {a : Option Addr} {x : DataW H × List MemPlace} (h : DataW.trod enc Tryz.prog W 0 (fun _ => true) true fuel 31 [.slice a len cap] = some x) :
    ∃ zs : List Int, zs.length = len ∧ SeesI W a zs ∧ len ≤ maxLen := by
  have hc1 : Tryz.prog.cellsOf 3 = 1 := by kernel_rfl
  rcases open_slice Tryz.underlying31 h with ⟨hcs, _⟩ | ⟨a0, len', cap', m, n, D, Pl, hcs, _, hl, hm, hmm, _, hel⟩
  · cases hcs
    exact ⟨[], rfl, fun j u hj => by simp at hj, by unfold maxLen; omega⟩
  · cases hcs
    simp only [if_true] at hmm
    subst hmm
    rw [hc1] at hel
    have hx : ∀ i, i < len → ∃ z : Int, W.cell? (a0.add (i * 1)) = some (.int .i64 z) := by
      intro i hi
      obtain ⟨cs', hc0, ht0⟩ := hel i (by omega)
      obtain ⟨_, _, hcell⟩ := World.cells?_some hc0
      have hlen : cs'.length = 1 := by
        have := World.cells?_some hc0
        simp_all
      match cs', hlen, ht0, hcell with
      | [c0], _, ht0, hcell =>
        obtain ⟨n0, e0, _, _⟩ := DataW.trod_int Tryz.underlying3 ht0
        cases e0
        refine ⟨n0, ?_⟩
        have := hcell 0 (by omega)
        simpa [Addr.add] using this
    obtain ⟨f, hf⟩ : ∃ f : Nat → Int, ∀ i, i < len → W.cell? (a0.add (i * 1)) = some (.int .i64 (f i)) := by
      classical
      refine ⟨fun i => if hi : i < len then (hx i hi).choose else 0, fun i hi => ?_⟩
      simp only [dif_pos hi]
      exact (hx i hi).choose_spec
    refine ⟨(List.range len).map f, by simp, ?_, Nat.le_trans hl hm⟩
    intro j u hj
    have hjl : j < len := by
      have := (List.getElem?_eq_some_iff.1 hj).1
      simpa using this
    have hu : f j = u := by simpa [hjl] using hj
    subst hu
    obtain ⟨b, off, spot⟩ := a0
    have h0 := hf j hjl
    obtain rfl : spot = none := by simpa [Addr.add] using World.cell?_spot (hf 0 (by omega))
    refine ⟨b, off, rfl, ?_⟩
    rw [add_plain, Nat.mul_one] at h0
    exact h0

set_option maxRecDepth 100000 in
theorem head_cells {fuel : Nat} {cs : List Value} {x : DataW H × List MemPlace} (h : DataW.trod enc Tryz.prog W 0 (fun _ => true) true fuel 33 cs = some x) : ∃ p : Hd, cs = p.list ∧ p.Int64 := by
  obtain ⟨xs, n, _, _, hlen, hxl, hf⟩ := DataW.trod_struct Tryz.underlying33 h
  have hc7 : Tryz.prog.cellsOf 33 = 7 := by kernel_rfl
  rw [hc7] at hlen
  match cs, hlen, xs, hxl with
  | [c0, c1, c2, c3, c4, c5, c6], _, [y0, y1, y2, y3, y4, y5, y6], _ =>
    have f0 := hf 0 _ rfl
    have f1 := hf 1 _ rfl
    have f2 := hf 2 _ rfl
    have f3 := hf 3 _ rfl
    have f4 := hf 4 _ rfl
    have f5 := hf 5 _ rfl
    have f6 := hf 6 _ rfl
    simp only [List.getElem?_cons_zero, List.getElem?_cons_succ] at f0 f1 f2 f3 f4 f5 f6
    obtain ⟨n0, e0, _, w0⟩ := DataW.trod_int Tryz.underlying3 f0
    obtain ⟨n1, e1, _, w1⟩ := DataW.trod_int Tryz.underlying3 f1
    obtain ⟨n2, e2, _, w2⟩ := DataW.trod_int Tryz.underlying3 f2
    obtain ⟨n3, e3, _, w3⟩ := DataW.trod_int Tryz.underlying3 f3
    obtain ⟨n4, e4, _, w4⟩ := DataW.trod_int Tryz.underlying3 f4
    obtain ⟨n5, e5, _, w5⟩ := DataW.trod_int Tryz.underlying3 f5
    obtain ⟨n6, e6, _, w6⟩ := DataW.trod_int Tryz.underlying3 f6
    cases e0; cases e1; cases e2; cases e3; cases e4; cases e5; cases e6
    exact ⟨⟨n0, n1, n2, n3, n4, n5, n6⟩, rfl, ⟨inI_wf w0, inI_wf w1, inI_wf w2, inI_wf w3, inI_wf w4, inI_wf w5, inI_wf w6⟩⟩


set_option maxRecDepth 100000 in
theorem play_cells {fuel : Nat} {cs : List Value} {x : DataW H × List MemPlace} (h : DataW.trod enc Tryz.prog W 0 (fun _ => true) true fuel 35 cs = some x) :
    ∃ p : Pq, cs = p.cells ∧ p.ok W := by
  obtain ⟨xs, n, _, _, hlen, hxl, hf⟩ := DataW.trod_struct Tryz.underlying35 h
  have hc5 : Tryz.prog.cellsOf 35 = 11 := by kernel_rfl
  rw [hc5] at hlen
  match cs, hlen, xs, hxl with
  | [c0, c1, c2, c3, c4, c5, c6, c7, c8, c9, c10], _, [y0, y1, y2, y3, y4], _ =>
    have f0 := hf 0 _ rfl
    have f1 := hf 1 _ rfl
    have f2 := hf 2 _ rfl
    have f3 := hf 3 _ rfl
    have f4 := hf 4 _ rfl
    simp only [List.getElem?_cons_zero, List.getElem?_cons_succ] at f0 f1 f2 f3 f4
    obtain ⟨n0, e0, _, _⟩ := DataW.trod_int Tryz.underlying3 f0
    obtain ⟨n1, e1, _, hw1⟩ := DataW.trod_int Tryz.underlying3 f1
    obtain ⟨n2, e2, _, hz2⟩ := DataW.trod_string Tryz.underlying9 f2
    obtain ⟨hd, e4, h64⟩ := head_cells f4
    cases e0; cases e1; cases e2
    obtain ⟨a, len, cap, rfl⟩ : ∃ a len cap, c3 = .slice a len cap := by
      rcases open_slice Tryz.underlying31 f3 with ⟨hcs, _⟩ | ⟨a0, len', cap', m, n, D, Pl, hcs, _⟩
      · cases hcs; exact ⟨_, _, _, rfl⟩
      · cases hcs; exact ⟨_, _, _, rfl⟩
    obtain ⟨zs, rfl, hsee, hmax⟩ := open_ints f3
    refine ⟨⟨n0, n1, n2, zs, hd, a, cap⟩, ?_, hsee, hmax, hz2, i64_le hw1, h64⟩
    have e5 : [c4, c5, c6, c7, c8, c9, c10] = hd.list := e4
    show _ = [_, _, _, _] ++ hd.list
    rw [← e5]; rfl

set_option maxRecDepth 100000 in
theorem open_plays {fuel len cap : Nat} {a : Option Addr} {x : DataW H × List MemPlace} (h : DataW.trod enc Tryz.prog W 0 (fun _ => true) true fuel 22 [.slice a len cap] = some x) :
    ∃ l : List Pq, l.length = len ∧ Sees W a (pqs l) ∧ (∀ x ∈ l, x.ok W) ∧ len ≤ maxLen := by
  have hc5 : Tryz.prog.cellsOf 35 = 11 := by kernel_rfl
  rcases open_slice Tryz.underlying22 h with ⟨hcs, _⟩ | ⟨a0, len', cap', m, n, D, Pl, hcs, _, hl, hm, hmm, _, hel⟩
  · cases hcs
    exact ⟨[], rfl, fun j u hj => by simp [pqs] at hj, fun x hx => by simp at hx, by unfold maxLen; omega⟩
  · cases hcs
    simp only [if_true] at hmm
    subst hmm
    rw [hc5] at hel
    have hx : ∀ i, i < len → ∃ p : Pq, (∀ j u, p.cells[j]? = some u → W.cell? ((a0.add (i * 11)).add j) = some u) ∧ p.ok W := by
      intro i hi
      obtain ⟨cs', hc0, ht0⟩ := hel i (by omega)
      obtain ⟨p, rfl, h1⟩ := play_cells ht0
      obtain ⟨_, _, hcell⟩ := World.cells?_some hc0
      refine ⟨p, fun j u hj => ?_, h1⟩
      have hj5 : j < 11 := (List.getElem?_eq_some_iff.1 hj).1
      rw [hcell j hj5, hj]
    obtain ⟨f, hf⟩ : ∃ f : Nat → Pq, ∀ i, i < len → (∀ j u, (f i).cells[j]? = some u → W.cell? ((a0.add (i * 11)).add j) = some u) ∧ (f i).ok W := by
      classical
      refine ⟨fun i => if hi : i < len then (hx i hi).choose else ⟨0, 0, ByteArray.empty, [], noHd, none, 0⟩, fun i hi => ?_⟩
      simp only [dif_pos hi]
      exact (hx i hi).choose_spec
    refine ⟨(List.range len).map f, by simp, ?_, ?_, Nat.le_trans hl hm⟩
    · intro j u hj
      have hjl : j < len * 11 := by
        have := (List.getElem?_eq_some_iff.1 hj).1
        rw [pqs_length] at this
        simpa using this
      have hi : j / 11 < len := by omega
      have e : j / 11 * 11 + j % 11 = j := by omega
      have h1 := flat5 Pq.cells 11 (fun _ => rfl) ((List.range len).map f) (j / 11) (j % 11) (f (j / 11)) (by simp [hi]) (by omega)
      rw [e] at h1
      have h2 := (hf (j / 11) hi).1 (j % 11) u (by rw [← h1]; exact hj)
      obtain ⟨b, off, spot⟩ := a0
      obtain rfl : spot = none := by simpa [Addr.add] using World.cell?_spot ((hf 0 (by omega)).1 0 (.int .i64 (f 0).kind) rfl)
      refine ⟨b, off, rfl, ?_⟩
      rw [add_plain, add_plain, Nat.add_assoc, e] at h2
      exact h2
    · intro x hx
      obtain ⟨i, hi, rfl⟩ := List.mem_map.1 hx
      exact (hf i (List.mem_range.1 hi)).2
end
theorem Sees.play {w : World} {a : Option Addr} {l : List Pq} (h : Sees w a (pqs l)) {k : Nat} {x : Pq} (hk : l[k]? = some x) :
    ∃ b off, a = some ⟨b, off, none⟩ ∧ (∀ j u, x.cells[j]? = some u → w.cell? ⟨b, off + k * 11 + j, none⟩ = some u) := by
  have g : ∀ j, j < 11 → (pqs l)[k * 11 + j]? = x.cells[j]? := fun j hj => flat5 Pq.cells 11 (fun _ => rfl) l k j x hk hj
  obtain ⟨b, off, rfl, -⟩ := h _ _ (g 0 (by omega))
  refine ⟨b, off, rfl, fun j u hj => ?_⟩
  have hj11 : j < 11 := (List.getElem?_eq_some_iff.1 hj).1
  obtain ⟨b', off', e, h1⟩ := h _ u ((g j hj11).trans hj)
  cases e
  rw [Nat.add_assoc]; exact h1
theorem Sees.kept {w w' : World} {a : Option Addr} {cs : List Value} (h : Sees w a cs) (hb : Below w.heap.size w w') : Sees w' a cs := fun j u hj => by
  obtain ⟨b, off, rfl, hc⟩ := h j u hj
  exact ⟨b, off, rfl, PH.kept hb hc⟩
theorem SeesI.kept {w w' : World} {a : Option Addr} {zs : List Int} (h : SeesI w a zs) (hb : Below w.heap.size w w') : SeesI w' a zs := fun j u hj => by
  obtain ⟨b, off, rfl, hc⟩ := h j u hj
  exact ⟨b, off, rfl, PH.kept hb hc⟩

/-- A step that is not too long. -/
def smallP (x : Pq) : Bool := decide (x.s.size ≤ 200) && decide (x.keep.length ≤ 60)
def bigP (l : List Pq) : Bool := !(decide (l.length ≤ 40) && l.all smallP)
theorem bigP_no {l : List Pq} (h : bigP l = false) : l.length ≤ 40 ∧ ∀ x ∈ l, x.s.size ≤ 200 ∧ x.keep.length ≤ 60 := by
  unfold bigP at h
  simp only [Bool.not_eq_false', Bool.and_eq_true, decide_eq_true_eq, List.all_eq_true] at h
  refine ⟨h.1, fun x hx => ?_⟩
  have := h.2 x hx
  unfold smallP at this
  simpa using this
theorem bigP_yes {l : List Pq} {x : Pq} (hx : x ∈ l) (h : smallP x = false) : bigP l = true := by
  unfold bigP
  have : l.all smallP = false := List.all_eq_false.2 ⟨x, hx, by simp [h]⟩
  rw [this]; simp
theorem bigP_all {l : List Pq} {k : Nat} (h : ∀ j, j < k → ∀ p, l[j]? = some p → smallP p = true) (hk : l.length ≤ k ∨ 40 ≤ k) : bigP l = decide (40 < l.length) := by
  by_cases hl : l.length ≤ 40
  · have : l.all smallP = true := List.all_eq_true.2 fun x hx => by
      obtain ⟨j, hj⟩ := List.getElem?_of_mem hx
      exact h j (by have := (List.getElem?_eq_some_iff.1 hj).1; omega) x hj
    unfold bigP
    rw [this]; simp [hl]
  · unfold bigP
    simp [hl]; omega

/-- The disk behind one step. -/
def plD (at_ : Int) (D : Dk) (x : Pq) : Dk :=
  if x.kind = 1 then writeD D x.i x.s else if x.kind = 2 then crashD D x.keep else if x.kind = 3 then armD D x.i else if x.kind = 4 then D else (saveR D at_ x.h).2.2
/-- The disk behind the first k steps. -/
def runP (at_ : Int) (D : Dk) (l : List Pq) (k : Nat) : Dk := (l.take k).foldl (plD at_) D
theorem runP_succ {at_ : Int} {D : Dk} {l : List Pq} {k : Nat} {x : Pq} (h : l[k]? = some x) : runP at_ D l (k + 1) = plD at_ (runP at_ D l k) x := by
  unfold runP
  rw [List.take_add_one, h]
  show ((l.take k) ++ [x]).foldl _ _ = _
  rw [List.foldl_append]
  rfl
/-- What k steps leave of a disk that is as it ought to be. -/
structure RunP (n : Nat) (D : Dk) (k : Nat) : Prop where
  ok : OkD D
  len : D.kept.length = n
  w : D.writes ≤ k
  b : D.barriers ≤ k
  wl : D.wait.length ≤ k
  sk : ∀ s ∈ D.kept, s.size ≤ 128
  sw : ∀ x ∈ D.wait, x.1.size ≤ 128
theorem RunP.read {n k : Nat} {D : Dk} (r : RunP n D k) (i : Int) : (readV D i).size ≤ 9223372036854775807 := by
  unfold readV lastAt
  cases hf : D.wait.reverse.find? fun x => x.2 == i with
  | some x => have := r.sw x (List.mem_reverse.1 (List.mem_of_find?_eq_some hf)); dsimp only; omega
  | none =>
    dsimp only
    rw [List.getD_eq_getElem?_getD]
    cases hk : D.kept[i.toNat]? with
    | some s => have := r.sk s (List.mem_of_getElem? hk); simp only [Option.getD_some]; omega
    | none => simp only [Option.getD_none]; decide
theorem keepK_mem (pick : Nat → Bool) (kept : List ByteArray) (wait : List (ByteArray × Int)) (hk : ∀ s ∈ kept, s.size ≤ 128) (hw : ∀ x ∈ wait, x.1.size ≤ 128) : ∀ n, ∀ s ∈ keepK pick kept wait n, s.size ≤ 128
  | 0 => hk
  | n + 1 => by
    have ih := keepK_mem pick kept wait hk hw n
    unfold keepK
    cases hx : wait[n]? with
    | none => exact ih
    | some x =>
      dsimp only
      split
      · intro s hs
        rcases List.mem_or_eq_of_mem_set hs with h | rfl
        · exact ih s h
        · exact hw x (List.mem_of_getElem? hx)
      · exact ih
theorem RunP.mono {n k : Nat} {D : Dk} (r : RunP n D k) : RunP n D (k + 1) := ⟨r.ok, r.len, by have := r.w; omega, by have := r.b; omega, by have := r.wl; omega, r.sk, r.sw⟩
theorem RunP.write {n k : Nat} {D : Dk} (r : RunP n D k) (hk : k ≤ 100000) (i : Int) (s : ByteArray) : RunP n (writeD D i s) (k + 1) ∧ (writeD D i s).barriers = D.barriers := by
  have hw := r.w
  have hb := r.b
  have hl := r.wl
  obtain ⟨e1, e2, e3, e4⟩ := burnD_same D
  have ok := r.ok.write i s (by omega) (by omega)
  unfold writeD at ok ⊢
  split at ok
  · rename_i c
    rw [if_pos c]
    split at ok
    · rename_i c2
      rw [if_pos c2]
      exact ⟨⟨ok, by rw [e1]; exact r.len, by omega, by omega, by rw [e2]; omega, by rw [e1]; exact r.sk, by rw [e2]; exact r.sw⟩, e4⟩
    · rename_i c2
      rw [if_neg c2]
      refine ⟨⟨ok, by simp only [wroteD]; rw [e1]; exact r.len, by simp only [wroteD, e3]; omega, by simp only [wroteD, e4]; omega, by simp only [wroteD, e2, List.length_append, List.length_singleton]; omega, by simp only [wroteD]; rw [e1]; exact r.sk, ?_⟩, by simp only [wroteD]; exact e4⟩
      simp only [wroteD, e2]
      intro x hx
      rcases List.mem_append.1 hx with h | h
      · exact r.sw x h
      · rw [List.mem_singleton] at h; subst h
        have := pad_size (s := s) (by have := c.2; omega)
        dsimp only; omega
  · rename_i c
    rw [if_neg c]
    exact ⟨r.mono, rfl⟩
theorem RunP.barrier {n k : Nat} {D : Dk} (r : RunP n D k) (hk : k ≤ 100001) (hb : D.barriers < k) : RunP n (barrierD D) k := by
  have hw := r.w
  have hl := r.wl
  obtain ⟨e1, e2, e3, e4⟩ := burnD_same D
  have ok := r.ok.barrier (by omega)
  unfold barrierD at ok ⊢
  split at ok
  · rename_i c
    rw [if_pos c]
    split at ok
    · rename_i c2
      rw [if_pos c2]
      exact ⟨ok, by rw [e1]; exact r.len, by omega, by omega, by rw [e2]; omega, by rw [e1]; exact r.sk, by rw [e2]; exact r.sw⟩
    · rename_i c2
      rw [if_neg c2]
      refine ⟨ok, by simp only [keepD, barredD, keepK_len]; rw [e1]; exact r.len, by simp only [keepD, barredD, e3]; omega, by simp only [keepD, barredD, e4]; omega, by simp only [keepD, List.length_nil]; omega, ?_, by simp only [keepD]; intro x hx; cases hx⟩
      simp only [keepD, barredD]
      exact keepK_mem _ _ _ (by rw [e1]; exact r.sk) (by rw [e2]; exact r.sw) _
  · rename_i c
    rw [if_neg c]
    exact r
theorem RunP.crash {n k : Nat} {D : Dk} (r : RunP n D k) (zs : List Int) : RunP n (crashD D zs) k := by
  have hw := r.w
  have hb := r.b
  have ok := r.ok.crash zs
  unfold crashD at ok ⊢
  split at ok
  · rename_i c
    rw [if_pos c]
    refine ⟨ok, by simp only [keepD, keepK_len]; exact r.len, by simp only [keepD]; omega, by simp only [keepD]; omega, by simp only [keepD, List.length_nil]; omega, ?_, by simp only [keepD]; intro x hx; cases hx⟩
    simp only [keepD]
    exact keepK_mem _ _ _ r.sk r.sw _
  · rename_i c
    rw [if_neg c]
    exact r
theorem RunP.arm {n k : Nat} {D : Dk} (r : RunP n D k) (i : Int) (hi : i ≤ 9223372036854775807) : RunP n (armD D i) k := by
  have ok := r.ok.arm i hi
  unfold armD at ok ⊢
  split at ok
  · rename_i c
    rw [if_pos c]
    exact ⟨ok, r.len, r.w, r.b, r.wl, r.sk, r.sw⟩
  · rename_i c
    rw [if_neg c]
    exact r
theorem RunP.save {n k : Nat} {D : Dk} (r : RunP n D k) (hk : k ≤ 100000) (at_ : Int) (h : Hd) : RunP n (saveR D at_ h).2.2 (k + 1) := by
  unfold saveR
  split
  · exact r.mono
  split
  · exact r.mono
  split
  · unfold putH
    obtain ⟨r1, hb1⟩ := r.write hk (at_ + (withG h ((findR D at_).1.gen + 1)).gen % 2) (headB (withG h ((findR D at_).1.gen + 1)))
    have r2 := r1.barrier (by omega) (by rw [hb1]; have := r.b; omega)
    split
    · split
      · exact r2
      · exact r2
    · exact r1
  · exact r.mono
theorem RunP.step {n k : Nat} {D : Dk} (r : RunP n D k) (hk : k ≤ 100000) (at_ : Int) (x : Pq) (hi : x.i ≤ 9223372036854775807) : RunP n (plD at_ D x) (k + 1) := by
  unfold plD
  split
  · exact (r.write hk _ _).1
  split
  · exact (r.crash _).mono
  split
  · exact (r.arm _ hi).mono
  split
  · exact r.mono
  exact r.save hk at_ x.h
theorem RunP.zero {n : Nat} (h2 : n ≤ 65536) : RunP n (newD n) 0 := ⟨newD_ok h2, List.length_replicate, by show (0 : Int) ≤ _; omega, by show (0 : Int) ≤ _; omega, Nat.le_refl _, fun s hs => by rw [List.eq_of_mem_replicate hs, zeros_size]; omega, fun x hx => by cases hx⟩
theorem runP_all {n : Nat} (h2 : n ≤ 65536) (at_ : Int) {l : List Pq} (hi : ∀ x ∈ l, x.i ≤ 9223372036854775807) : ∀ k, k ≤ l.length → k ≤ 100000 → RunP n (runP at_ (newD n) l k) k
  | 0, _, _ => RunP.zero h2
  | k + 1, hk, hk2 => by
    obtain ⟨x, hx⟩ : ∃ x, l[k]? = some x := ⟨_, List.getElem?_eq_getElem (by omega)⟩
    rw [runP_succ hx]
    exact (runP_all h2 at_ hi k (by omega) (by omega)).step (by omega) at_ x (hi x (List.mem_of_getElem? hx))
theorem RunP.made {n : Nat} {D : Dk} {k : Nat} (h : RunP n D k) (hn : 1 ≤ n) : madeB D = true := by
  unfold madeB
  rw [h.len]
  exact decide_eq_true (by omega)
end Go.Proofs.YtmkpglabiikdeaaGreat
