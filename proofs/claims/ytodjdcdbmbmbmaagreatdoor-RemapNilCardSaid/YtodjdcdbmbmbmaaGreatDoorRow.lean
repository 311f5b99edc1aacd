/-
  Rows that are written in place. Generic, no program in sight.
-/
import Derived.Test.YtodjdcdbmbmbmaaGreatDoorMore
namespace PH
open Go Go.RowKit
/-- A store into a row. -/
theorem Sat.rowSet {E w : World} {L : List HP} {e : TypeId} {sz g n cap : Nat} {cs : List Value} (x : Sat E w (row e sz (.slice (some ⟨g, 0, none⟩) n cap) n cs :: L)) {i : Nat} (u : Value) :
    Sat E (w.setCell ⟨g, i, none⟩ u) (row e sz (.slice (some ⟨g, 0, none⟩) n cap) n (cs.set i u) :: L) := by
  obtain ⟨hl, hx⟩ := x.rowCases
  rcases hx with ⟨e, _, _, _⟩ | ⟨g', cap', cur, e, h1, h2, h3, h4, y⟩
  · cases e
  · cases e
    refine (y.setCell i u).rowMk h1 h2 (by simpa using h3) ?_
    rw [Array.toList_setIfInBounds, ← h4, List.take_set]
/-- An empty literal. -/
theorem Sat.rowEmpty {E w : World} {L : List HP} (e : TypeId) (sz : Nat) (x : Sat E w L) {g : Nat} (hg : w.heap.size = g) : Sat E (w.alloc (.cells #[] e)) (row e sz (.slice (some ⟨g, 0, none⟩) 0 0) 0 [] :: L) :=
  hg ▸ (x.alloc (.cells #[] e)).rowMk (Nat.le_refl _) (by unfold maxLen; omega) (by simp) (by simp)
/-- What an owned row shows: besides, that it may be written. -/
theorem Sat.rowFree {E w : World} {L : List HP} {e : TypeId} {sz g n cap : Nat} {cs : List Value} (x : Sat E w (row e sz (.slice (some ⟨g, 0, none⟩) n cap) n cs :: L)) (i : Nat) : w.frozen? ⟨g, i, none⟩ = false := by
  obtain ⟨_, hx⟩ := x.rowCases
  rcases hx with ⟨e, _, _, _⟩ | ⟨g', cap', cur, e, h1, h2, h3, h4, y⟩
  · cases e
  · cases e; exact frozen_blk y.at i
section
variable {E w : World} {A B C D F G H : HP} {L : List HP}
theorem Sat.p4 (x : Sat E w (A :: B :: C :: D :: F :: L)) : Sat E w (F :: A :: B :: C :: D :: L) := (x.mono (Sat.under (Sat.under (Sat.under swap0)))).p3
theorem Sat.p5 (x : Sat E w (A :: B :: C :: D :: F :: G :: L)) : Sat E w (G :: A :: B :: C :: D :: F :: L) := (x.mono (Sat.under (Sat.under (Sat.under (Sat.under swap0))))).p4
theorem Sat.p6 (x : Sat E w (A :: B :: C :: D :: F :: G :: H :: L)) : Sat E w (H :: A :: B :: C :: D :: F :: G :: L) := (x.mono (Sat.under (Sat.under (Sat.under (Sat.under (Sat.under swap0)))))).p5
end
end PH
