/-
  A journal's records, as they stand: plain laws, no program in sight.
-/
import Derived.Test.YtmkpglabiikdeaaGreatDoorPcP
import Derived.Test.YtmkpglabiikdeaaGreatDoorJoin2
namespace Go.Proofs.YtmkpglabiikdeaaGreatDoor
open Go.RowKit PH

/-- The pieces at k places from b on, if all are there. -/
def run (f : Nat → Option Pc) (b : Nat) : Nat → Option (List Pc)
  | 0 => some []
  | k + 1 => match run f b k with
    | some l => match f (b + k) with
      | some p => some (l ++ [p])
      | none => none
    | none => none
theorem run_succ {f : Nat → Option Pc} {b k : Nat} {l : List Pc} {p : Pc} (h : run f b k = some l) (hp : f (b + k) = some p) : run f b (k + 1) = some (l ++ [p]) := by unfold run; rw [h]; dsimp only; rw [hp]
theorem run_none {f : Nat → Option Pc} {b k : Nat} (h : f (b + k) = none) : ∀ n, k < n → run f b n = none := by
  intro n
  induction n with
  | zero => intro hk; omega
  | succ n ih =>
    intro hk
    unfold run
    rcases Nat.lt_or_ge k n with h' | h'
    · rw [ih h']
    · obtain rfl : k = n := by omega
      split
      · rw [h]
      · rfl
theorem run_len {f : Nat → Option Pc} {b : Nat} : ∀ {k : Nat} {l : List Pc}, run f b k = some l → l.length = k := by
  intro k
  induction k with
  | zero => intro l h; cases h; rfl
  | succ k ih =>
    intro l h
    unfold run at h
    split at h
    · rename_i l' h1
      split at h
      · cases h
        rw [List.length_append, ih h1]; rfl
      · cases h
    · cases h
theorem run_get {f : Nat → Option Pc} {b : Nat} : ∀ {k : Nat} {l : List Pc}, run f b k = some l → ∀ i, i < k → f (b + i) = l[i]? := by
  intro k
  induction k with
  | zero => intro l h i hi; omega
  | succ k ih =>
    intro l h i hi
    unfold run at h
    split at h
    · rename_i l' h1
      split at h
      · rename_i p hp
        cases h
        have hl := run_len h1
        rcases Nat.lt_or_ge i k with h' | h'
        · rw [ih h1 i h', List.getElem?_append_left (by omega)]
        · obtain rfl : i = k := by omega
          rw [hp, List.getElem?_append_right (by omega), hl, Nat.sub_self]; rfl
      · cases h
    · cases h
theorem run_of {f : Nat → Option Pc} {b : Nat} {l : List Pc} (h : ∀ i, i < l.length → f (b + i) = l[i]?) : ∀ k, k ≤ l.length → run f b k = some (l.take k) := by
  intro k
  induction k with
  | zero => intro _; rfl
  | succ k ih =>
    intro hk
    have hp := h k (by omega)
    rw [List.getElem?_eq_getElem (by omega)] at hp
    rw [run_succ (ih (by omega)) hp, List.take_succ_eq_append_getElem (by omega)]
/-- The record's pieces that begin behind b places, of C, with a number: all of them, or none. -/
def recAt (f : Nat → Option Pc) (C b : Nat) (seq : Int) : Option (List Pc) :=
  match f b with
  | some p => if p.seq = seq ∧ p.parts ≤ (C : Int) - b then
      match run f b p.parts.toNat with
      | some l => if whole l then some l else none
      | none => none
    else none
  | none => none
def epochOf (l : List Pc) : Int := match l[0]? with | some p => p.epoch | none => 0
/-- The records that stand there: behind b places, since an epoch, ahead of the epoch E. -/
def stands (f : Nat → Option Pc) (C : Nat) (E : Int) : Nat → Nat → Int → Int → List (List Pc)
  | 0, _, _, _ => []
  | k + 1, b, least, seq => if b < C then
      match recAt f C b seq with
      | some l => if epochOf l < least ∨ E ≤ epochOf l then [] else l :: stands f C E k (b + l.length) (epochOf l) (seq + 1)
      | none => []
    else []
theorem goods_all {l : List Pc} (h : whole l = true) : 0 < l.length ∧ goods l l.length := by
  unfold whole at h
  simp only [Bool.and_eq_true, decide_eq_true_eq, List.all_eq_true] at h
  refine ⟨h.1, fun i hi p f hp hf => ?_⟩
  have := h.2 (p, i) (List.mem_zipIdx_iff_getElem?.2 hp)
  simpa only [hf] using this
theorem whole_get {l : List Pc} (h : whole l = true) {i : Nat} {p : Pc} (hp : l[i]? = some p) : okPc p = true ∧ p.part = i ∧ p.parts = l.length ∧ p.epoch = epochOf l ∧ (∀ q, l[0]? = some q → p.seq = q.seq) := by
  obtain ⟨h0, hg⟩ := goods_all h
  have hi := (List.getElem?_eq_some_iff.1 hp).1
  have hf : l[0]? = some l[0] := List.getElem?_eq_getElem h0
  have := hg i hi p _ hp hf
  unfold good at this
  simp only [Bool.and_eq_true, beq_iff_eq] at this
  obtain ⟨⟨⟨⟨k1, k2⟩, k3⟩, k4⟩, k5⟩ := this
  refine ⟨k1, k2, k5, ?_, fun q hq => ?_⟩
  · unfold epochOf; rw [hf]; exact k3
  · rw [hf] at hq; cases hq; exact k4
theorem recAt_some {f : Nat → Option Pc} {C b : Nat} {seq : Int} {l : List Pc} (h : recAt f C b seq = some l) :
    whole l = true ∧ (∀ i, i < l.length → f (b + i) = l[i]?) ∧ (∀ (i : Nat) (p : Pc), l[i]? = some p → p.seq = seq) ∧ b + l.length ≤ C := by
  unfold recAt at h
  split at h
  · rename_i p hp
    split at h
    · rename_i c
      split at h
      · rename_i l' hl
        split at h
        · rename_i hw
          cases h
          have hlen := run_len hl
          have hget := run_get hl
          obtain ⟨h0, _⟩ := goods_all hw
          have g0 := hget 0 (by omega)
          rw [Nat.add_zero, hp] at g0
          have w0 := whole_get hw g0.symm
          refine ⟨hw, fun i hi => hget i (by omega), fun i q hq => ?_, ?_⟩
          · rw [(whole_get hw hq).2.2.2.2 p g0.symm]; exact c.1
          · have := c.2; have := w0.2.2.1; omega
        · cases h
      · cases h
    · cases h
  · cases h
theorem recAt_of {f : Nat → Option Pc} {C b : Nat} {seq : Int} {l : List Pc} (hw : whole l = true) (hf : ∀ i, i < l.length → f (b + i) = l[i]?) (hs : ∀ p, l[0]? = some p → p.seq = seq) (hc : b + l.length ≤ C) : recAt f C b seq = some l := by
  obtain ⟨h0, _⟩ := goods_all hw
  have g0 : l[0]? = some l[0] := List.getElem?_eq_getElem h0
  have w0 := whole_get hw g0
  have f0 := hf 0 h0
  rw [Nat.add_zero, g0] at f0
  have r := run_of hf l.length (Nat.le_refl _)
  rw [List.take_length] at r
  have hn : (l[0].parts).toNat = l.length := by rw [w0.2.2.1]; simp
  unfold recAt
  rw [f0]
  dsimp only
  rw [if_pos ⟨hs _ g0, by rw [w0.2.2.1]; omega⟩, hn, r]
  dsimp only
  rw [if_pos hw]

/-- What the document's reader collects, from piece i on. -/
def col (f : Nat → Option Pc) (C b : Nat) (seq : Int) : Nat → Nat → List Pc
  | 0, _ => []
  | k + 1, i => if b + i < C then
      match f (b + i) with
      | some p => if p.part = i ∧ p.seq = seq then p :: (if p.part = p.parts - 1 then [] else col f C b seq k (i + 1)) else []
      | none => []
    else []
theorem col_of {f : Nat → Option Pc} {C b : Nat} {seq : Int} {l : List Pc} (hw : whole l = true) (hf : ∀ i, i < l.length → f (b + i) = l[i]?) (hs : ∀ (i : Nat) (p : Pc), l[i]? = some p → p.seq = seq) (hc : b + l.length ≤ C) :
    ∀ k i, i < l.length → l.length - i ≤ k → col f C b seq k i = l.drop i := by
  intro k
  induction k with
  | zero => intro i h1 h2; omega
  | succ k ih =>
    intro i h1 h2
    have e := hf i h1
    rw [List.getElem?_eq_getElem h1] at e
    have w := whole_get hw (List.getElem?_eq_getElem h1)
    unfold col
    rw [if_pos (by omega), e]
    dsimp only
    rw [if_pos ⟨w.2.1, hs i _ (List.getElem?_eq_getElem h1)⟩, List.drop_eq_getElem_cons h1]
    congr 1
    by_cases hl : i + 1 = l.length
    · rw [if_pos (by rw [w.2.1, w.2.2.1]; omega), List.drop_of_length_le (by omega)]
    · rw [if_neg (by rw [w.2.1, w.2.2.1]; omega)]
      exact ih (i + 1) (by omega) (by omega)
theorem col_get {f : Nat → Option Pc} {C b : Nat} {seq : Int} : ∀ k i j p, (col f C b seq k i)[j]? = some p → f (b + (i + j)) = some p ∧ p.seq = seq ∧ b + (i + j) < C := by
  intro k
  induction k with
  | zero => intro i j p h; simp [col] at h
  | succ k ih =>
    intro i j p h
    unfold col at h
    split at h
    · rename_i hlt
      split at h
      · rename_i p' hp'
        split at h
        · rename_i c
          cases j with
          | zero => simp at h; subst h; exact ⟨hp', c.2, hlt⟩
          | succ j =>
            rw [List.getElem?_cons_succ] at h
            split at h
            · simp at h
            · have := ih (i + 1) j p h
              rw [show i + (j + 1) = i + 1 + j from by omega]
              exact this
        · simp at h
      · simp at h
    · simp at h
/-- What the document's reader joins is the record, if there is one. -/
theorem col_rec {f : Nat → Option Pc} {C b : Nat} {seq : Int} {k : Nat} (hk : C - b ≤ k) : (whole (col f C b seq k 0) = true → recAt f C b seq = some (col f C b seq k 0)) ∧ (whole (col f C b seq k 0) = false → recAt f C b seq = none) := by
  have fwd : whole (col f C b seq k 0) = true → recAt f C b seq = some (col f C b seq k 0) := by
    intro hw
    obtain ⟨h0, _⟩ := goods_all hw
    have hg : ∀ i, i < (col f C b seq k 0).length → f (b + i) = (col f C b seq k 0)[i]? := by
      intro i hi
      have e := List.getElem?_eq_getElem hi
      have := (col_get k 0 i _ e).1
      rw [Nat.zero_add] at this
      rw [this, e]
    refine recAt_of hw hg (fun p hp => (col_get k 0 0 p hp).2.1) ?_
    have e := List.getElem?_eq_getElem (show (col f C b seq k 0).length - 1 < (col f C b seq k 0).length by omega)
    have := (col_get k 0 _ _ e).2.2
    omega
  refine ⟨fwd, fun hw => ?_⟩
  cases hr : recAt f C b seq with
  | none => rfl
  | some l =>
    exfalso
    obtain ⟨w, hf, hs, hc⟩ := recAt_some hr
    obtain ⟨h0, _⟩ := goods_all w
    have := col_of w hf hs hc k 0 h0 (by omega)
    rw [List.drop_zero] at this
    rw [this, w] at hw
    cases hw
end Go.Proofs.YtmkpglabiikdeaaGreatDoor
