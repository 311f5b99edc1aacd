/-
  Layer 19: of no store there is nothing.
-/
import Derived.Tactics
import Derived.Tactics2
import Derived.OwnWalk
import Derived.Test.YtnpkpbgfnfkadaaGreatDoorSat
import Derived.Test.YtnpkpbgfnfkadaaGreatDoorProg
namespace Go.Proofs.YtnpkpbgfnfkadaaGreatDoor
open Go.RowKit PH

theorem size_nil (W : World) : Calls Tryz.prog 65 #[.pointer none] W fun e w' => e = .returned (.int .i64 0) ∧ w' = W := by
  go_enter Tryz.func65, Tryz.ntmps65
  go_wp2
  go_ret
  exact ⟨rfl, rfl⟩
theorem epoch_nil (W : World) : Calls Tryz.prog 14 #[.pointer none] W fun e w' => e = .returned (.int .i64 0) ∧ w' = W := by
  go_enter Tryz.func14, Tryz.ntmps14
  go_wp2
  go_ret
  exact ⟨rfl, rfl⟩
theorem count_nil (W : World) : Calls Tryz.prog 15 #[.pointer none] W fun e w' => e = .returned (.int .i64 0) ∧ w' = W := by
  go_enter Tryz.func15, Tryz.ntmps15
  go_wp2
  go_ret
  exact ⟨rfl, rfl⟩
theorem room_nil (W : World) : Calls Tryz.prog 16 #[.pointer none] W fun e w' => e = .returned (.int .i64 0) ∧ w' = W := by
  go_enter Tryz.func16, Tryz.ntmps16
  go_wp2
  go_ret
  exact ⟨rfl, rfl⟩
theorem barrier_nil (W : World) : Calls Tryz.prog 12 #[.pointer none] W fun e w' => e = .returned (.int .i64 1) ∧ w' = W := by
  go_enter Tryz.func12, Tryz.ntmps12
  go_wp2
  go_ret
  exact ⟨rfl, rfl⟩
theorem do_nil (l : Value) (W : World) : Calls Tryz.prog 10 #[.pointer none, l] W fun e w' => e = .returned (.int .i64 1) ∧ w' = W := by
  go_enter Tryz.func10, Tryz.ntmps10
  go_wp2
  go_ret
  exact ⟨rfl, rfl⟩
theorem get_nil (s : ByteArray) (n : Int) (W : World) : Calls Tryz.prog 7 #[.pointer none, .string s, .int .i64 n] W fun e w' => e = .returned (.tuple #[.string ByteArray.empty, .int .i64 1]) ∧ w' = W := by
  go_enter Tryz.func7, Tryz.ntmps7
  go_wp2
  go_ret2
  exact ⟨rfl, rfl⟩
theorem checkpoint_nil {E W : World} {L : List HP} (x : Sat E W L) : Calls Tryz.prog 13 #[.pointer none] W fun e w' => e = .returned (.int .i64 1) ∧ Sat E w' L := by
  have HX := Lib.hid x
  clear x
  go_enter Tryz.func13, Tryz.ntmps13
  go_wp2
  go_ret
  exact ⟨rfl, (HX.out.alloc _).tail⟩
theorem put_nil {E W : World} {L : List HP} (x : Sat E W L) (s d : ByteArray) (n : Int) : Calls Tryz.prog 11 #[.pointer none, .string s, .int .i64 n, .string d] W fun e w' => e = .returned (.int .i64 1) ∧ Sat E w' L := by
  have HX := Lib.hid x
  clear x
  go_enter Tryz.func11, Tryz.ntmps11
  go_wp2
  go_ret
  exact ⟨rfl, ((((HX.out.alloc _).tail.alloc _).tail.alloc _).tail.alloc _).tail⟩
end Go.Proofs.YtnpkpbgfnfkadaaGreatDoor
