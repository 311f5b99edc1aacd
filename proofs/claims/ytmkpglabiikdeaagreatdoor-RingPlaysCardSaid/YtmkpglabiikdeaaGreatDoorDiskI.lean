/-
  posthouse/disk.Disk: Read where nothing is read, Image, and the methods of no disk.
-/
import Derived.Test.YtmkpglabiikdeaaGreatDoorDiskR
namespace Go.Proofs.YtmkpglabiikdeaaGreatDoor
open Go.RowKit PH

set_option maxHeartbeats 400000 in
theorem read_no {E W : World} {L : List HP} {b : Nat} {D : Dk} (x : Sat E W (isDisk b D :: L)) (i : Int) (h0 : thereE D i ≠ 0) :
    Calls Tryz.prog 119 #[.pointer (some ⟨b, 0, none⟩), .int .i64 i] W fun e w' => e = .returned (.tuple #[.string ByteArray.empty, .int .i64 (thereE D i)]) ∧ Sat E w' (isDisk b D :: L) := by
  obtain ⟨t, ht⟩ : ∃ t, thereE D i = t := ⟨_, rfl⟩
  have HT := Lib.hid ht
  rw [ht] at h0 ⊢
  clear ht
  have hb : (t != 0) = true := by simp [h0]
  have XX := Lib.hid x
  have HX := Lib.hid (((x.alloc (.cells #[.int .i64 i] 3)).alloc (.cells #[.string ByteArray.empty] 9)).alloc (.cells #[.int .i64 0] 27))
  clear x
  go_enter Tryz.func119, Tryz.ntmps119
  go_wp2_with (go_at_call 92; refine (there_ok HX.out.p3 i).mono ?_; rintro e w2 ⟨rfl, rfl⟩; rw [HT.out])
  refine bodyPost_ret (v := .tuple #[.string ByteArray.empty, .int .i64 t]) (by simp [results, Tryz.results119, go_sem]; rfl) rfl ⟨rfl, ?_⟩
  exact (((XX.out.alloc _).alloc _).alloc _).tail.tail.tail

theorem read_nil {E W : World} {L : List HP} (x : Sat E W L) (i : Int) :
    Calls Tryz.prog 119 #[.pointer none, .int .i64 i] W fun e w' => e = .returned (.tuple #[.string ByteArray.empty, .int .i64 1]) ∧ Sat E w' L := by
  have XX := Lib.hid x
  have HX := Lib.hid (((x.alloc (.cells #[.int .i64 i] 3)).alloc (.cells #[.string ByteArray.empty] 9)).alloc (.cells #[.int .i64 0] 27))
  clear x
  go_enter Tryz.func119, Tryz.ntmps119
  go_wp2_with (go_at_call 92; refine (there_nil i).mono ?_; rintro e w2 ⟨rfl, rfl⟩)
  refine bodyPost_ret (v := .tuple #[.string ByteArray.empty, .int .i64 1]) (by simp [results, Tryz.results119, go_sem]; rfl) rfl ⟨rfl, ?_⟩
  exact (((XX.out.alloc _).alloc _).alloc _).tail.tail.tail

/-- A slice of strings in memory of its own. -/
def StrRow (v : Value) (l : List ByteArray) : HP := row 9 1 v l.length (sects l)

end Go.Proofs.YtmkpglabiikdeaaGreatDoor

