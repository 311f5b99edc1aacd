/-
  posthouse/fh: Parse, walked: its parts.
-/
import Derived.Test.YtodjdcdbmbmbmaaGreatDoorFhM
import Derived.Test.YtodjdcdbmbmbmaaGreatDoorXdrR
namespace Go.Proofs.YtodjdcdbmbmbmaaGreatDoor
open Go.RowKit PH

theorem rDone_no {E W : World} {L : List HP} {b : Nat} {s : ByteArray} {err : Int} (x : Sat E W (isRd b s err :: L)) (he : err ≠ 0) : Calls Tryz.prog 38 #[.pointer (some ⟨b, 0, none⟩)] W fun e w' => e = .returned (.int .i64 err) ∧ Sat E w' (isRd b s err :: L) := by
  have HX := Lib.hid x
  clear x
  go_enter Tryz.func38, Tryz.ntmps38
  go_wp2_with (go_at_call 75; refine (rErr_ok HX.out).mono ?_; rintro e w2 ⟨rfl, rfl⟩)
  all_goals first
    | (go_ret; exact ⟨rfl, HX.out⟩)
    | (exfalso; omega)
theorem rDone_ok {E W : World} {L : List HP} {b : Nat} {s : ByteArray} (x : Sat E W (isRd b s 0 :: L)) (hs : s.size = 0) : Calls Tryz.prog 38 #[.pointer (some ⟨b, 0, none⟩)] W fun e w' => e = .returned (.int .i64 0) ∧ Sat E w' (isRd b s 0 :: L) := by
  have c0 := cell_blk x.at 0
  have HX := Lib.hid x
  clear x
  go_enter Tryz.func38, Tryz.ntmps38
  go_wp2_with (go_at_call 75; refine (rErr_ok HX.out).mono ?_; rintro e w2 ⟨rfl, rfl⟩)
  all_goals first
    | (go_ret; exact ⟨rfl, HX.out⟩)
    | (exfalso; omega)
set_option maxRecDepth 100000 in
set_option maxHeartbeats 800000 in
theorem laid_bad {E W : World} {L : List HP} (x : Sat E W L) (k A B : Int) (h1 : k ≠ 1) (h2 : k ≠ 2) :
    Calls Tryz.prog 37 #[.agg #[.int .i64 k, .int .i64 A, .int .i64 B]] W fun e w' => e = .returned (.tuple #[.agg zero16, .bool false]) ∧ Sat E w' L := by
  have hx0 : Sat E (((W.alloc (.cells #[.int .i64 k, .int .i64 A, .int .i64 B] 24)).alloc (.cells zero16 98)).alloc (.cells #[.slice none 0 0] 178)) (pt (W.heap.size + 1) (.cells zero16 98) :: L) := by
    have h := ((((x.alloc (.cells #[.int .i64 k, .int .i64 A, .int .i64 B] 24)).tail).alloc (.cells zero16 98)).alloc (.cells #[.slice none 0 0] 178)).tail
    simp only [World.size_alloc] at h
    exact h
  have HX := Lib.hid hx0
  clear hx0 x
  have hiz : (Tryz.prog.info? 98).map (·.size) = some zero16.size := by kernel_rfl
  go_enter Tryz.func37, Tryz.ntmps37
  go_wp2
  (try simp only [Exit.inBlock, Exit.then])
  have z := HX.out
  exact post_row2 rfl (W.heap.size + 1) 98 _ (0, 0) _ rfl z.at Tryz.underlying98 rfl hiz rfl ⟨rfl, z.tail⟩
end Go.Proofs.YtodjdcdbmbmbmaaGreatDoor
