/-
  posthouse/disk.Disk: the methods of no disk; Count.
-/
import Derived.Test.YtmkpglabiikdeaaGreatDoorDiskF
namespace Go.Proofs.YtmkpglabiikdeaaGreatDoor
open Go.RowKit PH

theorem write_nil {W : World} (i : Int) (s : ByteArray) : Calls Tryz.prog 64 #[.pointer none, .int .i64 i, .string s] W fun e w' => e = .returned (.int .i64 1) ∧ w' = W := by
  go_enter Tryz.func64, Tryz.ntmps64
  go_wp2_with (go_at_call 92; refine (there_nil i).mono ?_; rintro e w2 ⟨rfl, rfl⟩)
  go_ret
  exact ⟨rfl, rfl⟩
theorem barrier_nil {W : World} : Calls Tryz.prog 25 #[.pointer none] W fun e w' => e = .returned (.int .i64 1) ∧ w' = W := by
  go_enter Tryz.func25, Tryz.ntmps25
  go_wp2_with (go_at_call 59; refine alive_nil.mono ?_; rintro e w2 ⟨rfl, rfl⟩)
  go_ret
  exact ⟨rfl, rfl⟩
theorem crash_nil {E W : World} {L : List HP} (x : Sat E W L) (v : Value) : Calls Tryz.prog 29 #[.pointer none, v] W fun e w' => e = .returned (.int .i64 1) ∧ Sat E w' L := by
  have HX := Lib.hid x
  clear x
  go_enter Tryz.func29, Tryz.ntmps29
  go_wp2_with (go_at_call 66; refine made_nil.mono ?_; rintro e w2 ⟨rfl, rfl⟩)
  all_goals go_ret
  all_goals exact ⟨rfl, (HX.out.alloc _).tail⟩

end Go.Proofs.YtmkpglabiikdeaaGreatDoor

