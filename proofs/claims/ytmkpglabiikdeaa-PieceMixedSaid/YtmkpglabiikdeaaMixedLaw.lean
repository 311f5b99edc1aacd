/-
  The plain law of PieceMixed: pieces of which one is of another epoch, or number, or of which one is missing, are no record's.
-/
import Derived.Test.YtmkpglabiikdeaaCutsLaw
namespace Go.Proofs.Ytmkpglabiikdeaa
open Go.RowKit PH

def withE (l : List Pc) (k : Nat) (o : Int) : List Pc := l.modify k fun p => { p with epoch := o }
def withQ (l : List Pc) (k : Nat) (o : Int) : List Pc := l.modify k fun p => { p with seq := o }
def without (l : List Pc) (k : Nat) : List Pc := l.take k ++ l.drop (k + 1)

theorem pcs_cons (p : Pc) (l : List Pc) : pcs (p :: l) = p.cells ++ pcs l := by simp [pcs]
theorem pcs_append (l m : List Pc) : pcs (l ++ m) = pcs l ++ pcs m := by simp [pcs]
theorem pcs_withE : ∀ (l : List Pc) (k : Nat) (o : Int), pcs (withE l k o) = (pcs l).set (k * 5) (.int .i64 o)
  | [], _, _ => by simp [withE, pcs]
  | p :: l, 0, o => by simp [withE, pcs, Pc.cells]
  | p :: l, k + 1, o => by
    have ih := pcs_withE l k o
    unfold withE at *
    rw [List.modify_succ_cons, pcs_cons, pcs_cons, ih, List.set_append_right _ _ (by show 5 ≤ _; omega)]
    congr 2
    show _ = (k + 1) * 5 - 5
    omega
theorem pcs_withQ : ∀ (l : List Pc) (k : Nat) (o : Int), pcs (withQ l k o) = (pcs l).set (k * 5 + 1) (.int .i64 o)
  | [], _, _ => by simp [withQ, pcs]
  | p :: l, 0, o => by simp [withQ, pcs, Pc.cells]
  | p :: l, k + 1, o => by
    have ih := pcs_withQ l k o
    unfold withQ at *
    rw [List.modify_succ_cons, pcs_cons, pcs_cons, ih, List.set_append_right _ _ (by show 5 ≤ _; omega)]
    congr 2
    show _ = (k + 1) * 5 + 1 - 5
    omega
theorem withE_len (l : List Pc) (k : Nat) (o : Int) : (withE l k o).length = l.length := by simp [withE]
theorem withQ_len (l : List Pc) (k : Nat) (o : Int) : (withQ l k o).length = l.length := by simp [withQ]
theorem without_len (l : List Pc) (k : Nat) (hk : k < l.length) : (without l k).length = l.length - 1 := by simp [without]; omega

theorem data_of {l m : List Pc} (hl : ∀ p ∈ l, p.data.size ≤ 1000) (h : ∀ (i : Nat) (p : Pc), m[i]? = some p → ∃ (j : Nat) (q : Pc), l[j]? = some q ∧ p.data = q.data) : ∀ p ∈ m, p.data.size ≤ 1000 := by
  intro p hp
  obtain ⟨i, hi⟩ := List.getElem?_of_mem hp
  obtain ⟨j, q, hq, e⟩ := h i p hi
  rw [e]
  exact hl q (List.mem_of_getElem? hq)
theorem data_withE {l : List Pc} {k : Nat} {o : Int} (hl : ∀ p ∈ l, p.data.size ≤ 1000) : ∀ p ∈ withE l k o, p.data.size ≤ 1000 := by
  refine data_of hl fun i p hp => ?_
  unfold withE at hp
  rw [List.getElem?_modify] at hp
  cases hi : l[i]? with
  | none => rw [hi] at hp; cases hp
  | some q =>
    rw [hi] at hp
    refine ⟨i, q, hi, ?_⟩
    by_cases hk : k = i
    · simp [hk] at hp; rw [← hp]
    · simp [hk] at hp; rw [hp]
theorem data_withQ {l : List Pc} {k : Nat} {o : Int} (hl : ∀ p ∈ l, p.data.size ≤ 1000) : ∀ p ∈ withQ l k o, p.data.size ≤ 1000 := by
  refine data_of hl fun i p hp => ?_
  unfold withQ at hp
  rw [List.getElem?_modify] at hp
  cases hi : l[i]? with
  | none => rw [hi] at hp; cases hp
  | some q =>
    rw [hi] at hp
    refine ⟨i, q, hi, ?_⟩
    by_cases hk : k = i
    · simp [hk] at hp; rw [← hp]
    · simp [hk] at hp; rw [hp]
theorem data_without {l : List Pc} {k : Nat} (hl : ∀ p ∈ l, p.data.size ≤ 1000) : ∀ p ∈ without l k, p.data.size ≤ 1000 := by
  intro p hp
  unfold without at hp
  rcases List.mem_append.1 hp with h | h
  · exact hl p (List.mem_of_mem_take h)
  · exact hl p (List.mem_of_mem_drop h)

section
variable {s : ByteArray} {ep sq o : Int} {k : Nat}
theorem withE_get {l : List Pc} (i : Nat) {p : Pc} (h : l[i]? = some p) : (withE l k o)[i]? = some (if k = i then { p with epoch := o } else p) := by
  unfold withE
  rw [List.getElem?_modify, h]
  by_cases e : k = i <;> simp [e]
theorem withQ_get {l : List Pc} (i : Nat) {p : Pc} (h : l[i]? = some p) : (withQ l k o)[i]? = some (if k = i then { p with seq := o } else p) := by
  unfold withQ
  rw [List.getElem?_modify, h]
  by_cases e : k = i <;> simp [e]

theorem join_withE (hs : s.size ≤ 6400) (hn : nums ep sq = true) (hm : 2 ≤ npc s.size) (hk : k < npc s.size) : joinErr (withE (cutL s ep sq) k o) = if o = ep then 0 else 14 := by
  by_cases e : o = ep
  · subst e
    rw [if_pos rfl]
    have : withE (cutL s o sq) k o = cutL s o sq := by
      apply List.ext_getElem?
      intro i
      by_cases hi : i < npc s.size
      · have h1 := cutL_get s o sq hi
        rw [withE_get i h1, h1]
        by_cases e : k = i <;> simp [e]
      · rw [List.getElem?_eq_none (by rw [withE_len, cutL_len]; omega), List.getElem?_eq_none (by rw [cutL_len]; omega)]
    rw [this]
    exact joinErr_cut s o sq hs hn
  · rw [if_neg e]
    unfold joinErr
    have h0 := withE_get (k := k) (o := o) 0 (cutL_get s ep sq (k := 0) (by omega))
    by_cases k0 : k = 0
    · have h1 := withE_get (k := k) (o := o) 1 (cutL_get s ep sq (k := 1) (by omega))
      rw [if_pos k0] at h0
      rw [if_neg (by omega)] at h1
      rw [whole_no h1 h0 (by unfold good; rw [show ((ep : Int) == o) = false from beq_eq_false_iff_ne.2 (fun h => e h.symm)]; simp)]
      rfl
    · have h1 := withE_get (k := k) (o := o) k (cutL_get s ep sq (k := k) hk)
      rw [if_neg k0] at h0
      rw [if_pos rfl] at h1
      rw [whole_no h1 h0 (by unfold good; rw [show ((o : Int) == ep) = false from beq_eq_false_iff_ne.2 e]; simp)]
      rfl
theorem join_withQ (hs : s.size ≤ 6400) (hn : nums ep sq = true) (hm : 2 ≤ npc s.size) (hk : k < npc s.size) : joinErr (withQ (cutL s ep sq) k o) = if o = sq then 0 else 14 := by
  by_cases e : o = sq
  · subst e
    rw [if_pos rfl]
    have : withQ (cutL s ep o) k o = cutL s ep o := by
      apply List.ext_getElem?
      intro i
      by_cases hi : i < npc s.size
      · have h1 := cutL_get s ep o hi
        rw [withQ_get i h1, h1]
        by_cases e : k = i <;> simp [e]
      · rw [List.getElem?_eq_none (by rw [withQ_len, cutL_len]; omega), List.getElem?_eq_none (by rw [cutL_len]; omega)]
    rw [this]
    exact joinErr_cut s ep o hs hn
  · rw [if_neg e]
    unfold joinErr
    have h0 := withQ_get (k := k) (o := o) 0 (cutL_get s ep sq (k := 0) (by omega))
    by_cases k0 : k = 0
    · have h1 := withQ_get (k := k) (o := o) 1 (cutL_get s ep sq (k := 1) (by omega))
      rw [if_pos k0] at h0
      rw [if_neg (by omega)] at h1
      rw [whole_no h1 h0 (by unfold good; rw [show ((sq : Int) == o) = false from beq_eq_false_iff_ne.2 (fun h => e h.symm)]; simp)]
      rfl
    · have h1 := withQ_get (k := k) (o := o) k (cutL_get s ep sq (k := k) hk)
      rw [if_neg k0] at h0
      rw [if_pos rfl] at h1
      rw [whole_no h1 h0 (by unfold good; rw [show ((o : Int) == sq) = false from beq_eq_false_iff_ne.2 e]; simp)]
      rfl
theorem join_without (hm : 2 ≤ npc s.size) (hk : k < npc s.size) : joinErr (without (cutL s ep sq) k) = 14 := by
  have hl : (without (cutL s ep sq) k).length = npc s.size - 1 := by rw [without_len _ _ (by rw [cutL_len]; exact hk), cutL_len]
  have h0 : ∃ p : Pc, (without (cutL s ep sq) k)[0]? = some p ∧ p.parts = (npc s.size : Int) := by
    by_cases k0 : k = 0
    · refine ⟨(⟨ep, sq, (1 : Nat), npc s.size, chunk s 1⟩ : Pc), ?_, ?_⟩
      rotate_left
      · rfl
      unfold without
      rw [k0, List.take_zero, List.nil_append, List.getElem?_drop]
      exact cutL_get s ep sq (k := 1) (by omega)
    · refine ⟨(⟨ep, sq, (0 : Nat), npc s.size, chunk s 0⟩ : Pc), ?_, ?_⟩
      rotate_left
      · rfl
      unfold without
      rw [List.getElem?_append_left (by rw [List.length_take, cutL_len]; omega), List.getElem?_take, if_pos (by omega)]
      exact cutL_get s ep sq (k := 0) (by omega)
  obtain ⟨p, h0, hp⟩ := h0
  unfold joinErr
  rw [whole_no h0 h0 (by unfold good; rw [hp, hl, show ((npc s.size : Int) == ((npc s.size - 1 : Nat) : Int)) = false from beq_eq_false_iff_ne.2 (by omega)]; simp)]
  rfl
end
end Go.Proofs.Ytmkpglabiikdeaa
