/-
  The document's word on heads that may be, walked.
-/
import Derived.Test.YtmkpglabiikdeaaGreatHead
namespace Go.Proofs.YtmkpglabiikdeaaGreat
open Go.RowKit PH

set_option maxRecDepth 100000 in
set_option maxHeartbeats 3200000 in
theorem refHdCheck_ok {E W : World} {L : List HP} (x : Sat E W L) (h : Hd) : Calls Tryz.prog 40 #[.agg h.cells] W fun e w' => e = .returned (.bool (okHd h)) ∧ Sat E w' L := by
  have HX := Lib.hid (x.alloc (.cells h.cells 33))
  obtain ⟨h_gen, h_epoch, h_since, h_area, h_size, h_next, h_pos⟩ := h
  unfold Hd.cells at *
  dsimp only at *
  clear x
  by_cases a0 : h_area = 0
  · subst a0
    obtain ⟨r, hr⟩ : ∃ r : Bool, okHd ⟨h_gen, h_epoch, h_since, 0, h_size, h_next, h_pos⟩ = r := ⟨_, rfl⟩
    rw [hr]
    have HR := Lib.hid hr
    clear hr
    go_enter Tryz.func40, Tryz.ntmps40
    go_wp2
    all_goals go_ret
    all_goals refine ⟨retB ?_, HX.out.tail⟩
    all_goals rw [← HR.out]
    all_goals (simp only [okHd]; simp_all <;> omega)
  · by_cases a1 : h_area = 1
    · subst a1
      obtain ⟨r, hr⟩ : ∃ r : Bool, okHd ⟨h_gen, h_epoch, h_since, 1, h_size, h_next, h_pos⟩ = r := ⟨_, rfl⟩
      rw [hr]
      have HR := Lib.hid hr
      clear hr
      go_enter Tryz.func40, Tryz.ntmps40
      go_wp2
      all_goals go_ret
      all_goals refine ⟨retB ?_, HX.out.tail⟩
      all_goals rw [← HR.out]
      all_goals (simp only [okHd]; simp_all <;> omega)
    · have b0 : (h_area == 0) = false := beq_eq_false_iff_ne.2 a0
      have b1 : (h_area == 1) = false := beq_eq_false_iff_ne.2 a1
      obtain ⟨r, hr⟩ : ∃ r : Bool, okHd ⟨h_gen, h_epoch, h_since, h_area, h_size, h_next, h_pos⟩ = r := ⟨_, rfl⟩
      rw [hr]
      have HR := Lib.hid hr
      clear hr
      go_enter Tryz.func40, Tryz.ntmps40
      go_wp2
      all_goals go_ret
      all_goals refine ⟨retB ?_, HX.out.tail⟩
      all_goals rw [← HR.out]
      all_goals (simp only [okHd]; simp_all <;> omega)
end Go.Proofs.YtmkpglabiikdeaaGreat

