/-
  posthouse/fh: handles made of numbers, walked.
-/
import Derived.Test.YtodjdcdbmbmbmaaGreatDoorFh
namespace Go.Proofs.YtodjdcdbmbmbmaaGreatDoor
open Go.RowKit PH

theorem conv16 {w : World} {g : Nat} {l : List Nat} (h16 : l.length = 16) (hc : ∀ i, w.cell? ⟨g, i, none⟩ = (cellsB l).toArray[i]?) : (convert 58 9 (.slice (some ⟨g, 0, none⟩) 16 16)).run Tryz.prog w = .ok (.string (bs l)) w := by
  have := run_convert_bytes_arg (P := Tryz.prog) w 58 5 Tryz.underlying58 Tryz.underlying5 g 0 16 16 (l.map fun c : Nat => (c : Int)) (by simp [h16]) (fun i hi => by
    rw [Nat.zero_add, hc i]
    simp [cellsB, List.getD, List.getElem?_eq_getElem (show i < l.length by omega)]) 9 Tryz.underlying9
  rwa [strOfNums_bs] at this
set_option maxRecDepth 100000 in
set_option maxHeartbeats 800000 in
theorem make_ok {E W : World} {L : List HP} (x : Sat E W L) (k A B : Nat) (hk : k = 1 ∨ k = 2) (hA : A < 4294967296) (hB : B ≤ 9223372036854775807) :
    Calls Tryz.prog 33 #[.agg #[.int .i64 k, .int .i64 A, .int .i64 B]] W fun e w' => e = .returned (.string (bs (hL k A B))) ∧ Sat E w' L := by
  have HX := Lib.hid (x.alloc (.cells #[.int .i64 k, .int .i64 A, .int .i64 B] 24))
  clear x
  have hi16a : (Tryz.prog.info? 98).map (·.size) = some (cellsB (hL k A B)).toArray.size := by rw [List.size_toArray, cellsB_len, hL_len]; kernel_rfl
  have hone := cellsB_one (hL k A B)
  have h16s : (cellsB (hL k A B)).toArray.size = 16 := by rw [List.size_toArray, cellsB_len, hL_len]
  go_enter Tryz.func33, Tryz.ntmps33
  go_wp2_with (first
    | (go_at_call 37; refine (laid_ok HX.out k A B hk hA hB).mono ?_; rintro e w2 ⟨rfl, hx2⟩; have hx3 := hx2.alloc (.cells zero16 98); have HT := Lib.hid (row_there hx3); have hx4 := row_store hx3 (cellsB (hL k A B)) (by rw [cellsB_len, hL_len]; rfl); have hcv := conv16 (hL_len k A B) (fun i => cell_blk hx4.at i); have HX4 := Lib.hid hx4; clear hx2 hx3 hx4)
    | (with_reducible refine wpl_store 98 w2.heap.size (cellsB (hL k A B)) ?_ hi16a hone ?_ ?_ ?_))
  all_goals first
    | rfl
    | (rw [h16s]; exact HT.out)
    | (go_ret; exact ⟨rfl, HX4.out.tail.tail⟩)
set_option maxRecDepth 100000 in
set_option maxHeartbeats 800000 in
theorem make_no {E W : World} {L : List HP} (x : Sat E W L) (k : Nat) (A B : Int) (hk : k = 1 ∨ k = 2) (hA : 4294967296 ≤ A) (hA2 : A ≤ 9223372036854775807) :
    Calls Tryz.prog 33 #[.agg #[.int .i64 k, .int .i64 A, .int .i64 B]] W fun e w' => e = .returned (.string ByteArray.empty) ∧ Sat E w' L := by
  have HX := Lib.hid (x.alloc (.cells #[.int .i64 k, .int .i64 A, .int .i64 B] 24))
  clear x
  go_enter Tryz.func33, Tryz.ntmps33
  go_wp2_with (go_at_call 37; refine (laid_no HX.out k A B hk hA hA2).mono ?_; rintro e w2 ⟨rfl, hx2⟩; have HX2 := Lib.hid (hx2.alloc (.cells zero16 98)); clear hx2)
  all_goals first
    | (go_ret; exact ⟨rfl, HX2.out.tail.tail⟩)
    | (trace_state; sorry)
/-- The key of a node, by its Id and Gen. -/
def keyS (id gen : Int) : ByteArray := if id < 1 ∨ gen < 1 ∨ 4294967296 ≤ id then ByteArray.empty else bs (hL 1 id.toNat gen.toNat)
set_option maxRecDepth 100000 in
theorem issued_ok {E W : World} {L : List HP} (x : Sat E W L) (id gen : Int) (h1 : id ≤ 9223372036854775807) (h2 : gen ≤ 9223372036854775807) :
    Calls Tryz.prog 32 #[.agg #[.int .i64 1, .int .i64 id, .int .i64 gen]] W fun e w' => e = .returned (.string (keyS id gen)) ∧ Sat E w' L := by
  have HX := Lib.hid (x.alloc (.cells #[.int .i64 1, .int .i64 id, .int .i64 gen] 24)).tail
  clear x
  by_cases c1 : id < 1
  · rw [keyS, if_pos (.inl c1)]
    go_enter Tryz.func32, Tryz.ntmps32
    go_wp2
    go_ret
    exact ⟨rfl, HX.out⟩
  by_cases c2 : gen < 1
  · rw [keyS, if_pos (.inr (.inl c2))]
    go_enter Tryz.func32, Tryz.ntmps32
    go_wp2
    go_ret
    exact ⟨rfl, HX.out⟩
  by_cases c3 : 4294967296 ≤ id
  · rw [keyS, if_pos (.inr (.inr c3))]
    go_enter Tryz.func32, Tryz.ntmps32
    go_wp2_with (go_at_call 33; refine (make_no HX.out 1 id gen (.inl rfl) c3 h1).mono ?_; rintro e w2 ⟨rfl, hx2⟩)
    go_ret
    exact ⟨rfl, hx2⟩
  rw [keyS, if_neg (by omega)]
  obtain ⟨A, rfl⟩ := Int.eq_ofNat_of_zero_le (show 0 ≤ id by omega)
  obtain ⟨B, rfl⟩ := Int.eq_ofNat_of_zero_le (show 0 ≤ gen by omega)
  go_enter Tryz.func32, Tryz.ntmps32
  go_wp2_with (go_at_call 33; refine (make_ok HX.out 1 A B (.inl rfl) (by omega) (by omega)).mono ?_; rintro e w2 ⟨rfl, hx2⟩)
  go_ret
  exact ⟨rfl, hx2⟩
theorem node_ok {E W : World} {L : List HP} (x : Sat E W L) (id gen : Int) (h1 : id ≤ 9223372036854775807) (h2 : gen ≤ 9223372036854775807) :
    Calls Tryz.prog 25 #[.int .i64 id, .int .i64 gen] W fun e w' => e = .returned (.string (keyS id gen)) ∧ Sat E w' L := by
  have HX := Lib.hid x
  clear x
  go_enter Tryz.func25, Tryz.ntmps25
  go_wp2_with (go_at_call 32; refine (issued_ok HX.out id gen h1 h2).mono ?_; rintro e w2 ⟨rfl, hx2⟩)
  go_ret
  exact ⟨rfl, hx2⟩
end Go.Proofs.YtodjdcdbmbmbmaaGreatDoor
