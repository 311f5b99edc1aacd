/-
  Ownership of heap blocks as lists of resources (a small separation logic over the model's worlds): generic lemmas, no program in sight.
-/
import Derived.WalkKit
import Derived.WalkSpells
import Derived.WalkLawsBesides
import Derived.Lib.Hide
namespace PH
open Go Go.RowKit

abbrev Hl := Nat → Option Obj
abbrev HP := Hl → Prop

def sep (A B : HP) : HP := fun h => ∃ h1 h2, A h1 ∧ B h2 ∧ (∀ b, h1 b = none ∨ h2 b = none) ∧ (∀ b o, h1 b = some o → h b = some o) ∧ (∀ b o, h2 b = some o → h b = some o)

def seps : List HP → HP
  | [] => fun _ => True
  | A :: L => sep A (seps L)

theorem sep_comm {A B : HP} {h : Hl} (x : sep A B h) : sep B A h := by
  obtain ⟨h1, h2, a, b, d, e1, e2⟩ := x
  exact ⟨h2, h1, b, a, fun k => (d k).symm, e2, e1⟩

theorem sep_mono {A A' B B' : HP} {h : Hl} (ha : ∀ h, A h → A' h) (hb : ∀ h, B h → B' h) (x : sep A B h) : sep A' B' h := by
  obtain ⟨h1, h2, a, b, r⟩ := x
  exact ⟨h1, h2, ha _ a, hb _ b, r⟩

/-- The union of two heaplets. -/
def uni (h1 h2 : Hl) : Hl := fun b => match h1 b with | some o => some o | none => h2 b

theorem sep_assoc {A B C : HP} {h : Hl} (x : sep (sep A B) C h) : sep A (sep B C) h := by
  obtain ⟨h12, h3, ⟨h1, h2, a, b, d12, e1, e2⟩, c, d, f1, f2⟩ := x
  refine ⟨h1, uni h2 h3, a, ⟨h2, h3, b, c, ?_, ?_, ?_⟩, ?_, fun k o hk => f1 k o (e1 k o hk), ?_⟩
  · intro k
    rcases d k with hk | hk
    · refine .inl ?_
      cases h2k : h2 k with
      | none => rfl
      | some o => have := e2 k o h2k; rw [hk] at this; cases this
    · exact .inr hk
  · intro k o hk; simp [uni, hk]
  · intro k o hk
    unfold uni
    cases h2k : h2 k with
    | none => exact hk
    | some o2 =>
      have h12k := e2 k o2 h2k
      rcases d k with hk' | hk'
      · rw [hk'] at h12k; cases h12k
      · rw [hk'] at hk; cases hk
  · intro k
    cases h1k : h1 k with
    | none => exact .inl rfl
    | some o1 =>
      refine .inr ?_
      have h12k := e1 k o1 h1k
      have h3k : h3 k = none := by
        rcases d k with hk' | hk'
        · rw [hk'] at h12k; cases h12k
        · exact hk'
      have h2k : h2 k = none := by
        rcases d12 k with hk' | hk'
        · rw [hk'] at h1k; cases h1k
        · exact hk'
      simp [uni, h2k, h3k]
  · intro k o hk
    unfold uni at hk
    cases h2k : h2 k with
    | none => rw [h2k] at hk; exact f2 k o hk
    | some o2 => rw [h2k] at hk; cases hk; exact f1 k _ (e2 k _ h2k)

theorem sep_assoc' {A B C : HP} {h : Hl} (x : sep A (sep B C) h) : sep (sep A B) C h :=
  sep_comm (sep_assoc (sep_comm (sep_assoc (sep_comm x))))

theorem sep_left_comm {A B C : HP} {h : Hl} (x : sep A (sep B C) h) : sep B (sep A C) h :=
  sep_assoc (sep_mono (fun _ y => sep_comm y) (fun _ y => y) (sep_assoc' x))

/-- What owns memory owns it in a larger heaplet. -/
theorem seps_up : ∀ (L : List HP) {k h : Hl}, seps L k → (∀ b o, k b = some o → h b = some o) → seps L h
  | [], _, _, _, _ => trivial
  | _ :: _, _, _, ⟨h1, h2, a, c, d, f1, f2⟩, e => ⟨h1, h2, a, c, d, fun k o hk => e k o (f1 k o hk), fun k o hk => e k o (f2 k o hk)⟩

theorem seps_append : ∀ (L1 L2 : List HP) {h : Hl}, sep (seps L1) (seps L2) h → seps (L1 ++ L2) h
  | [], L2, _, ⟨_, _, _, b, _, _, e2⟩ => seps_up L2 b e2
  | _ :: L1, L2, _, x => sep_mono (fun _ y => y) (fun _ y => seps_append L1 L2 y) (sep_assoc x)

theorem seps_append' : ∀ (L1 L2 : List HP) {h : Hl}, seps (L1 ++ L2) h → sep (seps L1) (seps L2) h
  | [], L2, h, x => ⟨fun _ => none, h, trivial, x, fun _ => .inl rfl, fun _ _ hk => (by cases hk), fun _ _ hk => hk⟩
  | A :: L1, L2, h, x => sep_assoc' (sep_mono (fun _ y => y) (fun _ y => seps_append' L1 L2 y) x)

/-- In world w the resources L are owned, apart from each other; the streams and the tape are those of E. -/
structure Sat (E w : World) (L : List HP) : Prop where
  os : w.os = E.os
  tape : w.tape = E.tape
  output : w.output = E.output
  has : ∃ h, seps L h ∧ ∀ (b : Nat) (o : Obj), h b = some o → w.heap[b]? = some o

def pt (b : Nat) (o : Obj) : HP := fun h => h b = some o
/-- A fact without memory. -/
def fact (p : Prop) : HP := fun _ => p
/-- All blocks of W are as in W. -/
def heapIs (W : World) : HP := fun h => ∀ b o, W.heap[b]? = some o → h b = some o
def ex {α : Type} (A : α → HP) : HP := fun h => ∃ x, A x h

section
variable {E w w' : World} {A B C D A' : HP} {L L' : List HP} {b : Nat} {o o' : Obj}

theorem Sat.mono (x : Sat E w L) (h : ∀ k, seps L k → seps L' k) : Sat E w L' :=
  ⟨x.os, x.tape, x.output, let ⟨k, a, s⟩ := x.has; ⟨k, h k a, s⟩⟩
theorem Sat.head (x : Sat E w (A :: L)) (h : ∀ k, A k → A' k) : Sat E w (A' :: L) := x.mono fun _ y => sep_mono h (fun _ z => z) y
theorem Sat.p1 (x : Sat E w (A :: B :: L)) : Sat E w (B :: A :: L) := x.mono fun _ y => sep_left_comm y
theorem Sat.under (h : ∀ k, seps L k → seps L' k) : ∀ k, seps (A :: L) k → seps (A :: L') k := fun _ y => sep_mono (fun _ z => z) h y
theorem swap0 : ∀ k, seps (A :: B :: L) k → seps (B :: A :: L) k := fun _ y => sep_left_comm y
theorem Sat.p2 (x : Sat E w (A :: B :: C :: L)) : Sat E w (C :: A :: B :: L) := (x.mono (Sat.under swap0)).p1
theorem Sat.p3 (x : Sat E w (A :: B :: C :: D :: L)) : Sat E w (D :: A :: B :: C :: L) := (x.mono (Sat.under (Sat.under swap0))).p2
theorem Sat.flat {L1 : List HP} (x : Sat E w (seps L1 :: L)) : Sat E w (L1 ++ L) := x.mono fun _ y => seps_append _ _ y
theorem Sat.pack (L1 : List HP) (x : Sat E w (L1 ++ L)) : Sat E w (seps L1 :: L) := x.mono fun _ y => seps_append' _ _ y
theorem Sat.tail (x : Sat E w (A :: L)) : Sat E w L := by
  refine ⟨x.os, x.tape, x.output, ?_⟩
  obtain ⟨k, ⟨h1, h2, _, b, _, _, e2⟩, s⟩ := x.has
  exact ⟨h2, b, fun b o hb => s b o (e2 b o hb)⟩
theorem Sat.ex {α : Type} {A : α → HP} (x : Sat E w (ex A :: L)) : ∃ y, Sat E w (A y :: L) := by
  obtain ⟨k, ⟨h1, h2, ⟨y, a⟩, b, r⟩, s⟩ := x.has
  exact ⟨y, x.os, x.tape, x.output, k, ⟨h1, h2, a, b, r⟩, s⟩
theorem Sat.mkEx {α : Type} {A : α → HP} (y : α) (x : Sat E w (A y :: L)) : Sat E w (PH.ex A :: L) := x.head fun _ a => ⟨y, a⟩
theorem Sat.fact {p : Prop} (x : Sat E w (fact p :: L)) : p ∧ Sat E w L := by
  obtain ⟨k, ⟨h1, h2, a, b, r⟩, s⟩ := x.has
  exact ⟨a, x.tail⟩
theorem Sat.mkFact {p : Prop} (hp : p) (x : Sat E w L) : Sat E w (PH.fact p :: L) :=
  x.mono fun h y => ⟨fun _ => none, h, hp, y, fun _ => .inl rfl, fun _ _ hk => (by cases hk), fun _ _ hk => hk⟩
/-- What the head says of its heaplet, where that does not hang on how large the heaplet is. -/
theorem Sat.says {p : Prop} (x : Sat E w (A :: L)) (h : ∀ k, A k → (∀ b o, k b = some o → w.heap[b]? = some o) → p) : p := by
  obtain ⟨k, ⟨h1, h2, a, b, d, e1, e2⟩, s⟩ := x.has
  exact h h1 a fun b o hb => s b o (e1 b o hb)
theorem Sat.at (x : Sat E w (pt b o :: L)) : w.heap[b]? = some o := x.says fun _ a s => s _ _ a
theorem Sat.lt (x : Sat E w (pt b o :: L)) : b < w.heap.size := (Array.getElem?_eq_some_iff.1 x.at).1
theorem Sat.ne {b' : Nat} (x : Sat E w (pt b o :: pt b' o' :: L)) : b ≠ b' := by
  obtain ⟨k, ⟨h1, h2, a, ⟨h3, h4, c, _, _, e3, _⟩, d, _, _⟩, s⟩ := x.has
  intro e; subst e
  have c' : h2 b = some o' := e3 _ _ c
  rcases d b with hb | hb
  · rw [show h1 b = some o from a] at hb; cases hb
  · rw [c'] at hb; cases hb

/-- The world grows: what there was stands. -/
theorem Sat.grow (x : Sat E w L) (ho : w'.os = w.os) (ht : w'.tape = w.tape) (hu : w'.output = w.output)
    (hh : ∀ (k : Nat) (o : Obj), w.heap[k]? = some o → w'.heap[k]? = some o) : Sat E w' L :=
  ⟨ho.trans x.os, ht.trans x.tape, hu.trans x.output, let ⟨k, a, s⟩ := x.has; ⟨k, a, fun b o hb => hh b o (s b o hb)⟩⟩
/-- One block that is owned has become another. -/
theorem Sat.upd (x : Sat E w (pt b o :: L)) (ho : w'.os = w.os) (ht : w'.tape = w.tape) (hu : w'.output = w.output)
    (hb : w'.heap[b]? = some o') (hh : ∀ (k : Nat) (o : Obj), k ≠ b → w.heap[k]? = some o → w'.heap[k]? = some o) : Sat E w' (pt b o' :: L) := by
  refine ⟨ho.trans x.os, ht.trans x.tape, hu.trans x.output, ?_⟩
  obtain ⟨k, ⟨h1, h2, a, l, d, e1, e2⟩, s⟩ := x.has
  refine ⟨uni (fun k => if k = b then some o' else none) h2, ⟨fun k => if k = b then some o' else none, h2, by simp [pt], l, ?_, ?_, ?_⟩, ?_⟩
  · intro k
    by_cases hk : k = b
    · subst hk
      rcases d k with h | h
      · rw [show h1 k = some o from a] at h; cases h
      · exact .inr h
    · exact .inl (by simp [hk])
  · intro k o2 hk; unfold uni; rw [hk]
  · intro k o2 hk
    have : k ≠ b := by
      intro e; subst e
      rcases d k with h | h
      · rw [show h1 k = some o from a] at h; cases h
      · rw [h] at hk; cases hk
    simp [uni, this, hk]
  · intro k o2 hk
    unfold uni at hk
    by_cases e : k = b
    · subst e; simp at hk; subst hk; exact hb
    · simp [e] at hk; exact hh k o2 e (s k o2 (e2 k o2 hk))
/-- A new block. -/
theorem Sat.new (x : Sat E w L) (ho : w'.os = w.os) (ht : w'.tape = w.tape) (hu : w'.output = w.output)
    (hb : w'.heap[w.heap.size]? = some o) (hh : ∀ (k : Nat) (o : Obj), w.heap[k]? = some o → w'.heap[k]? = some o) : Sat E w' (pt w.heap.size o :: L) := by
  refine ⟨ho.trans x.os, ht.trans x.tape, hu.trans x.output, ?_⟩
  obtain ⟨k, l, s⟩ := x.has
  have hn : ∀ j o, k j = some o → j ≠ w.heap.size := fun j o hj e => by
    have := (Array.getElem?_eq_some_iff.1 (s j o hj)).1; omega
  refine ⟨uni (fun k => if k = w.heap.size then some o else none) k, ⟨fun k => if k = w.heap.size then some o else none, k, by simp [pt], l, ?_, ?_, ?_⟩, ?_⟩
  · intro j
    by_cases hj : j = w.heap.size
    · refine .inr ?_
      cases hk : k j with
      | none => rfl
      | some o2 => exact absurd hj (hn j o2 hk)
    · exact .inl (by simp [hj])
  · intro j o2 hj; unfold uni; rw [hj]
  · intro j o2 hj; simp [uni, hn j o2 hj, hj]
  · intro j o2 hj
    unfold uni at hj
    by_cases e : j = w.heap.size
    · subst e; simp at hj; subst hj; exact hb
    · simp [e] at hj; exact hh j o2 (s j o2 hj)

theorem Sat.drew (x : Sat E w L) : Sat E w.drew L := x.grow rfl rfl rfl fun _ _ h => h
theorem Sat.alloc (x : Sat E w L) (o : Obj) : Sat E (w.alloc o) (pt w.heap.size o :: L) :=
  x.new rfl rfl rfl (heap_alloc_new w o) fun _ _ h => (heap_alloc_old w o (Array.getElem?_eq_some_iff.1 h).1).trans h
theorem Sat.setCell {c : Array Value} {ty : TypeId} {fz : Nat × Nat} (x : Sat E w (pt b (.cells c ty fz) :: L)) (off : Nat) (v : Value) :
    Sat E (w.setCell ⟨b, off, none⟩ v) (pt b (.cells (c.setIfInBounds off v) ty fz) :: L) := by
  refine x.upd rfl rfl rfl ?_ fun k o hk h => (Below.heap_setCell w ⟨b, off, none⟩ v k hk).trans h
  have hx := x.at
  have hl := x.lt
  simp only [World.setCell, Array.getElem?_modify, if_true, hx]
  rfl
theorem Sat.setRow {c : Array Value} {ty : TypeId} {fz : Nat × Nat} (x : Sat E w (pt b (.cells c ty fz) :: L)) (cs : Array Value) :
    Sat E (w.setRow b cs) (pt b (.cells cs ty fz) :: L) := by
  refine x.upd rfl rfl rfl (setRow_heap w b c cs ty fz x.at) fun k o hk h => (setRow_other w b k cs (fun e => hk e)).trans h

theorem Sat.start (W : World) : Sat W W [heapIs W] :=
  ⟨rfl, rfl, rfl, fun b => W.heap[b]?, ⟨fun b => W.heap[b]?, fun _ => none, fun _ _ h => h, trivial, fun _ => .inr rfl, fun _ _ h => h, fun _ _ h => by cases h⟩, fun _ _ h => h⟩
theorem Sat.same {W : World} (x : Sat E w (heapIs W :: L)) {k : Nat} (hk : k < W.heap.size) : w.heap[k]? = W.heap[k]? := by
  refine x.says fun h a s => ?_
  obtain ⟨o, ho⟩ : ∃ o, W.heap[k]? = some o := ⟨W.heap[k], Array.getElem?_eq_getElem hk⟩
  rw [ho]; exact s k o (a k o ho)
theorem Sat.below {W : World} (x : Sat W w (heapIs W :: L)) : Below W.heap.size W w := by
  refine ⟨x.os, x.tape, x.output, ?_, fun k hk => x.same hk⟩
  rcases Nat.eq_zero_or_pos W.heap.size with h | h
  · omega
  · have := x.same (k := W.heap.size - 1) (by omega)
    have h2 : W.heap[W.heap.size - 1]? = some W.heap[W.heap.size - 1] := Array.getElem?_eq_getElem (by omega)
    rw [h2] at this
    have := (Array.getElem?_eq_some_iff.1 this).1
    omega
end

/-- Cells of a block. -/
theorem cell_blk {w : World} {b : Nat} {c : Array Value} {ty : TypeId} {fz : Nat × Nat} (h : w.heap[b]? = some (.cells c ty fz)) (i : Nat) : w.cell? ⟨b, i, none⟩ = c[i]? := by
  simp [World.cell?, h]
theorem frozen_blk {w : World} {b : Nat} {c : Array Value} {ty : TypeId} (h : w.heap[b]? = some (.cells c ty (0, 0))) (i : Nat) : w.frozen? ⟨b, i, none⟩ = false := by
  simp [World.frozen?, h]

theorem old_drew_alloc {w : World} {o' : Obj} {k : Nat} {o : Obj} (h : w.heap[k]? = some o) : (w.drew.alloc o').heap[k]? = some o :=
  (heap_alloc_old w.drew o' (show k < w.heap.size from (Array.getElem?_eq_some_iff.1 h).1)).trans h

/-- An owned growable row: slice value v of n elements of type e, of sz cells each, whose cells are cs. -/
def row (e : TypeId) (sz : Nat) (v : Value) (n : Nat) (cs : List Value) : HP := fun h =>
  cs.length = n * sz ∧ ((v = .slice none 0 0 ∧ n = 0) ∨
    ∃ g cap cur, v = .slice (some ⟨g, 0, none⟩) n cap ∧ h g = some (.cells cur e (0, 0)) ∧ n ≤ cap ∧ cap ≤ maxLen ∧ cur.size = cap * sz ∧ cur.toList.take (n * sz) = cs)

section
variable {E w : World} {L : List HP} {P : Program} {e : TypeId} {sz : Nat} {v : Value} {n : Nat} {cs : List Value}

theorem Sat.rowNil (e : TypeId) (sz : Nat) (x : Sat E w L) : Sat E w (row e sz (.slice none 0 0) 0 [] :: L) :=
  x.mono fun h y => ⟨fun _ => none, h, ⟨by simp, .inl ⟨rfl, rfl⟩⟩, y, fun _ => .inl rfl, fun _ _ hk => (by cases hk), fun _ _ hk => hk⟩

theorem Sat.rowCases (x : Sat E w (row e sz v n cs :: L)) : cs.length = n * sz ∧ ((v = .slice none 0 0 ∧ n = 0 ∧ cs = [] ∧ Sat E w L) ∨
    ∃ g cap cur, v = .slice (some ⟨g, 0, none⟩) n cap ∧ n ≤ cap ∧ cap ≤ maxLen ∧ cur.size = cap * sz ∧ cur.toList.take (n * sz) = cs ∧ Sat E w (pt g (.cells cur e (0, 0)) :: L)) := by
  have hl : cs.length = n * sz := x.says fun _ a _ => a.1
  refine ⟨hl, ?_⟩
  obtain ⟨k, ⟨h1, h2, ⟨_, a⟩, l, d, e1, e2⟩, s⟩ := x.has
  rcases a with ⟨rfl, rfl⟩ | ⟨g, cap, cur, rfl, hg, h3, h4, h5, h6⟩
  · exact .inl ⟨rfl, rfl, List.eq_nil_of_length_eq_zero (by simpa using hl), x.tail⟩
  · exact .inr ⟨g, cap, cur, rfl, h3, h4, h5, h6, x.os, x.tape, x.output, k, ⟨h1, h2, hg, l, d, e1, e2⟩, s⟩

theorem Sat.rowMk {g cap : Nat} {cur : Array Value} (x : Sat E w (pt g (.cells cur e (0, 0)) :: L)) (h1 : n ≤ cap) (h2 : cap ≤ maxLen) (h3 : cur.size = cap * sz) (h4 : cur.toList.take (n * sz) = cs) :
    Sat E w (row e sz (.slice (some ⟨g, 0, none⟩) n cap) n cs :: L) :=
  x.head fun _ a => ⟨by rw [← h4, List.length_take, Array.length_toList, h3]; exact Nat.min_eq_left (Nat.mul_le_mul_right _ h1), .inr ⟨g, cap, cur, rfl, a, h1, h2, h3, h4⟩⟩

/-- append onto an owned row. -/
theorem Sat.append (x : Sat E w (row e sz v n cs :: L)) (t ty : TypeId) (i : TypeInfo) (z : Value) (bytes : Nat) (ht : P.underlying t = some (.slice e)) (hi : P.info? e = some i) (hz : i.zero = some z)
    (hsize : i.size = sz) (hby : i.bytes = bytes) (hzs : z.cells.size = sz)
    (a : Addr) (m c : Nat) (news : List Value) (hl : news.length = m * sz) (hnews : ∀ j u, news[j]? = some u → w.cell? (a.add j) = some u) (h1 : ∀ u ∈ news, u.oneCell' = true)
    (h63 : n + m ≤ maxLen) (hbytes : (n + m) * bytes ≤ 140737488355328) :
    ∃ v' w', (Builtin.append_ #[t, t] ty #[v, .slice (some a) m c]).run P w = .ok v' w' ∧ Sat E w' (row e sz v' (n + m) (cs ++ news) :: L) ∧ (∀ (k : Nat) (o : Obj), w.heap[k]? = some o → v.ownBlock ≠ some k → w'.heap[k]? = some o) := by
  subst hsize; subst hby
  have hsmall : n + m ≤ 9223372036854775807 := by simp only [maxLen] at h63; omega
  obtain ⟨hlen, hx⟩ := x.rowCases
  have hlen' : (cs ++ news).length = (n + m) * i.size := by rw [List.length_append, hlen, hl, Nat.add_mul]
  rcases hx with ⟨rfl, rfl, rfl, y⟩ | ⟨g, cap, cur, rfl, hnc, hcm, hcs, htake, x⟩
  · by_cases hm : m = 0
    · subst hm
      have hn : news = [] := List.eq_nil_of_length_eq_zero (by simpa using hl)
      subst hn
      refine ⟨.slice none 0 0, w, ?_, by simpa using y.rowNil e i.size, fun _ _ h _ => h⟩
      simp [Builtin.append_, run_underlying ht, Go.sizeOf, typeInfo, hi, Builtin.lenOf, Builtin.firstCells, loadCells, loadCellsFrom]
    · have hr := run_append_nil (P := P) w t ty e i z ht hi hz a m c news hl hnews (by omega) (by omega) (by have hb := hbytes; simp only [Nat.zero_add] at hb; omega)
      have hge := grownCap_ge w m 0 e
      have hcm : grownCap w m 0 e ≤ maxLen := grownCap_le_maxLen w m 0 e (by omega)
      refine ⟨_, _, hr, ?_, fun k o h _ => ?_⟩
      · rw [Nat.zero_add, List.nil_append]
        refine (y.drew.alloc _).rowMk hge hcm ?_ ?_
        · simp only [Array.size_append, List.size_toArray, size_zeroCells, hzs, hl, ← Nat.add_mul]; congr 1; omega
        · simp only [Array.toList_append]
          rw [← hl]; exact List.take_left
      · exact old_drew_alloc h
  · by_cases hroom : n + m ≤ cap
    · have hfit : n * i.size + news.length ≤ cur.size := by rw [hl, hcs, ← Nat.add_mul]; exact Nat.mul_le_mul_right _ hroom
      have hr := run_append_room (P := P) w t ty e i ht hi g n cap cur x.at a m c news hl hnews h1 hroom hfit
      refine ⟨_, _, hr, ?_, fun k o h hk => (setRow_other w g k _ (fun e => hk (by simp [Value.ownBlock, e]))).trans h⟩
      refine (x.setRow _).rowMk hroom hcm ?_ ?_
      · simp only [List.size_toArray, List.length_append, List.length_take, List.length_drop, Array.length_toList]; omega
      · rw [htake, ← hlen']; exact List.take_left
    · have holds : ∀ j u, cs[j]? = some u → w.cell? ((⟨g, 0, none⟩ : Addr).add j) = some u := by
        intro j u hj
        have hadd : (⟨g, 0, none⟩ : Addr).add j = ⟨g, j, none⟩ := by unfold Addr.add; split <;> simp_all
        rw [hadd, cell_blk x.at, ← hj, ← htake, List.getElem?_take]
        have : j < n * i.size := by rw [← hlen]; exact (List.getElem?_eq_some_iff.1 hj).1
        simp [this]
      have hr := run_append_grow (P := P) w t ty e i z ht hi hz ⟨g, 0, none⟩ n cap cs hlen holds a m c news hl hnews (by omega) (by omega) (growslice_fits (by omega) hbytes)
      have hge := grownCap_ge w (n + m) cap e
      have hcm' : grownCap w (n + m) cap e ≤ maxLen := grownCap_le_maxLen w (n + m) cap e h63
      refine ⟨_, _, hr, ?_, fun k o h _ => old_drew_alloc h⟩
      refine (x.tail.drew.alloc _).rowMk hge hcm' ?_ ?_
      · simp only [Array.size_append, List.size_toArray, size_zeroCells, hzs, hlen, hl, ← Nat.add_mul]; congr 1; omega
      · simp only [Array.toList_append, List.append_assoc]
        rw [← List.append_assoc, ← hlen']; exact List.take_left

/-- The walk's law for it. -/
theorem wpList_app {ops : Array Oper} {rest : List Oper} {o : Oper} {ac : Act} {Q : Exit → Act → World → Prop} (hgd : o.guard = none) (s p : Operand) (t : TypeId)
    (ho : o.op = .call { callee := .builtin .append, args := #[s, p], argTypes := #[t, t] })
    (x : Sat E w (row e sz v n cs :: L)) (i : TypeInfo) (z : Value) (bytes : Nat) (ht : P.underlying t = some (.slice e)) (hi : P.info? e = some i) (hz : i.zero = some z)
    (hsize : i.size = sz) (hby : i.bytes = bytes) (hzs : z.cells.size = sz) (hs : ac.eval s = v)
    (a : Addr) (m c : Nat) (news : List Value) (hp : ac.eval p = .slice (some a) m c) (hl : news.length = m * sz) (hnews : ∀ j u, news[j]? = some u → w.cell? (a.add j) = some u) (h1 : ∀ u ∈ news, u.oneCell' = true)
    (h63 : n + m ≤ maxLen) (hbytes : (n + m) * bytes ≤ 140737488355328)
    (h : ∀ v' w', Sat E w' (row e sz v' (n + m) (cs ++ news) :: L) → (∀ (k : Nat) (o : Obj), w.heap[k]? = some o → v.ownBlock ≠ some k → w'.heap[k]? = some o) → wpList P ops Q rest (ac.put o.dst v') w') :
    wpList P ops Q (o :: rest) ac w :=
  wpList_plain hgd fun K hK => by
    obtain ⟨v', w', hr, h2, h3⟩ := x.append (P := P) t o.type i z bytes ht hi hz hsize hby hzs a m c news hl hnews h1 h63 hbytes
    unfold Oper.wp execOp
    simp only [ho, resolve, invoke, builtin, Sem.run_bind, Sem.run_pure, Result.andThen_ok, List.map_toArray, List.map_cons, List.map_nil, hs, hp, hr]
    exact hK _ _ (h v' w' h2 h3)
end

theorem retB {a b : Bool} (h : a = b) : Ending.returned (.bool a) = .returned (.bool b) := by rw [h]
theorem retI {k : IntKind} {a b : Int} (h : a = b) : Ending.returned (.int k a) = .returned (.int k b) := by rw [h]
theorem retS {a b : ByteArray} (h : a = b) : Ending.returned (.string a) = .returned (.string b) := by rw [h]

theorem kept {w w' : World} {a : Addr} {v : Value} (hb : Below w.heap.size w w') (h : w.cell? a = some v) : w'.cell? a = some v := by
  rw [hb.cell (World.block_lt_of_cell? w a h)]; exact h

theorem cell_al {w : World} {a : Addr} {v : Value} {o : Obj} (h : w.cell? a = some v) : (w.alloc o).cell? a = some v := by
  rw [World.cell?_alloc_lt _ _ _ (World.block_lt_of_cell? w a h)]; exact h
end PH
