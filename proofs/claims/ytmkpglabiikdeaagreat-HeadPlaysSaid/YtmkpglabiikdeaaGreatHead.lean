/-
  posthouse/head: a head that may be: the program's word and the document's, walked.
-/
import Derived.Test.YtmkpglabiikdeaaGreatFixed
import Derived.Test.YtmkpglabiikdeaaGreatRfR8
namespace Go.Proofs.YtmkpglabiikdeaaGreat
open Go.RowKit PH

structure Hd where
  gen : Int
  epoch : Int
  since : Int
  area : Int
  size : Int
  next : Int
  pos : Int
def Hd.cells (h : Hd) : Array Value := #[.int .i64 h.gen, .int .i64 h.epoch, .int .i64 h.since, .int .i64 h.area, .int .i64 h.size, .int .i64 h.next, .int .i64 h.pos]
/-- May a head be? -/
def okHd (h : Hd) : Bool := decide (1 ≤ h.gen ∧ 1 ≤ h.next ∧ 1 ≤ h.epoch ∧ h.epoch ≤ 4294967295 ∧ 1 ≤ h.since ∧ h.since ≤ h.epoch ∧ 0 ≤ h.area ∧ h.area ≤ 1 ∧ 0 ≤ h.size ∧ h.size ≤ 16777216 ∧ 0 ≤ h.pos ∧ h.pos ≤ 65535)
theorem okE_yes {h : Hd} (k : okHd h = true) : (if okHd h then (0 : Int) else 14) = 0 := by rw [k]; rfl
theorem okE_no {h : Hd} (k : okHd h = false) : (if okHd h then (0 : Int) else 14) = 14 := by rw [k]; rfl
theorem ok_yes {h : Hd} (k : okHd h = true) : okHd h = true := k
theorem ok_no {h : Hd} (k : okHd h = false) : okHd h = false := k

theorem upto_ok (n a b : Int) (W : World) : Calls Tryz.prog 70 #[.int .i64 n, .int .i64 a, .int .i64 b] W fun e w' => e = .returned (.bool (decide (a ≤ n ∧ n ≤ b))) ∧ w' = W := by
  by_cases h1 : a ≤ n
  · go_enter Tryz.func70, Tryz.ntmps70
    go_wp2
    go_ret
    exact ⟨retB (by simp [h1]), rfl⟩
  · go_enter Tryz.func70, Tryz.ntmps70
    go_wp2
    go_ret
    exact ⟨retB (by simp; omega), rfl⟩

set_option maxRecDepth 100000 in
set_option maxHeartbeats 3200000 in
theorem headCheck_ok {E W : World} {L : List HP} (x : Sat E W L) (h : Hd) : Calls Tryz.prog 56 #[.agg h.cells] W fun e w' => e = .returned (.int .i64 (if okHd h then 0 else 14)) ∧ Sat E w' L := by
  have HX := Lib.hid (x.alloc (.cells h.cells 33))
  obtain ⟨h_gen, h_epoch, h_since, h_area, h_size, h_next, h_pos⟩ := h
  unfold Hd.cells at *
  dsimp only at *
  clear x
  obtain ⟨r, hr⟩ : ∃ r : Int, (if okHd ⟨h_gen, h_epoch, h_since, h_area, h_size, h_next, h_pos⟩ then (0 : Int) else 14) = r := ⟨_, rfl⟩
  rw [hr]
  have HR := Lib.hid hr
  clear hr
  go_enter Tryz.func56, Tryz.ntmps56
  go_wp2_with (go_at_call 70; refine (upto_ok _ _ _ _).mono ?_; rintro e w2 ⟨rfl, rfl⟩)
  all_goals go_ret
  all_goals refine ⟨retI ?_, HX.out.tail⟩
  all_goals rw [← HR.out]
  all_goals (simp only [okHd]; simp_all <;> omega)
end Go.Proofs.YtmkpglabiikdeaaGreat

