/-
  posthouse/disk.Disk: the methods of no disk; Count.
-/
import Derived.Test.YtmkpglabiikdeaaGreatDiskF
namespace Go.Proofs.YtmkpglabiikdeaaGreat
open Go.RowKit PH

theorem write_nil {W : World} (i : Int) (s : ByteArray) : Calls Tryz.prog 8 #[.pointer none, .int .i64 i, .string s] W fun e w' => e = .returned (.int .i64 1) ∧ w' = W := by
  go_enter Tryz.func8, Tryz.ntmps8
  go_wp2_with (go_at_call 25; refine (there_nil i).mono ?_; rintro e w2 ⟨rfl, rfl⟩)
  go_ret
  exact ⟨rfl, rfl⟩
theorem barrier_nil {W : World} : Calls Tryz.prog 39 #[.pointer none] W fun e w' => e = .returned (.int .i64 1) ∧ w' = W := by
  go_enter Tryz.func39, Tryz.ntmps39
  go_wp2_with (go_at_call 33; refine alive_nil.mono ?_; rintro e w2 ⟨rfl, rfl⟩)
  go_ret
  exact ⟨rfl, rfl⟩
theorem crash_nil {E W : World} {L : List HP} (x : Sat E W L) (v : Value) : Calls Tryz.prog 10 #[.pointer none, v] W fun e w' => e = .returned (.int .i64 1) ∧ Sat E w' L := by
  have HX := Lib.hid x
  clear x
  go_enter Tryz.func10, Tryz.ntmps10
  go_wp2_with (go_at_call 29; refine made_nil.mono ?_; rintro e w2 ⟨rfl, rfl⟩)
  all_goals go_ret
  all_goals exact ⟨rfl, (HX.out.alloc _).tail⟩
theorem image_nil {W : World} : Calls Tryz.prog 21 #[.pointer none] W fun e w' => e = .returned (.slice none 0 0) ∧ w' = W := by
  go_enter Tryz.func21, Tryz.ntmps21
  go_wp2_with (go_at_call 29; refine made_nil.mono ?_; rintro e w2 ⟨rfl, rfl⟩)
  go_ret
  exact ⟨rfl, rfl⟩

end Go.Proofs.YtmkpglabiikdeaaGreat

