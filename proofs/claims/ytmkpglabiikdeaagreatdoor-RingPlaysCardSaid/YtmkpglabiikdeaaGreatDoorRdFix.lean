/-
  posthouse/xdr: the reader's texts of a fixed length, walked (a length that needs no filling up).
-/
import Derived.Test.YtmkpglabiikdeaaGreatDoorRdAt
namespace Go.Proofs.YtmkpglabiikdeaaGreatDoor
open Go.RowKit PH

theorem extract_none (s : ByteArray) (n : Nat) : s.extract n n = ByteArray.empty := by
  apply ByteArray.ext
  simp
theorem trim_none (W : World) : Calls Tryz.prog 105 #[.string ByteArray.empty, .string ⟨#[0]⟩] W fun e w' => e = .returned (.string ByteArray.empty) ∧ w' = W := by
  go_enter Tryz.func105, Tryz.ntmps105
  go_wp2
  go_ret
  exact ⟨rfl, rfl⟩
theorem padded1_ok {E W : World} {L : List HP} {q : Nat} {o : ByteArray} (x : Sat E W (pt q (.cells #[.string o] 9) :: L)) (s : ByteArray) :
    Calls Tryz.prog 103 #[.string s, .pointer (some ⟨q, 0, none⟩)] W fun e w' => e = .returned (.tuple #[]) ∧ Sat E w' (pt q (.cells #[.string s] 9) :: L) := by
  have c0 := cell_blk x.at 0
  have f0 := frozen_blk x.at 0
  have HX := Lib.hid (x.setCell 0 (.string s))
  clear x
  go_enter Tryz.func103, Tryz.ntmps103
  go_wp2
  refine bodyPost_end (results_none rfl _ _ _) rfl ⟨rfl, ?_⟩
  exact HX.out
theorem padded2_ok (W : World) (p : Value) :
    Calls Tryz.prog 104 #[.string ByteArray.empty, p] W fun e w' => e = .returned (.tuple #[]) ∧ w' = W := by
  go_enter Tryz.func104, Tryz.ntmps104
  go_wp2_with (go_at_call 105; refine (trim_none _).mono ?_; rintro e w2 ⟨rfl, rfl⟩)
  refine bodyPost_end (results_none rfl _ _ _) rfl ⟨rfl, rfl⟩
set_option maxRecDepth 100000 in
set_option maxHeartbeats 800000 in
theorem take_str {E W : World} {L : List HP} {b q : Nat} {s o : ByteArray} (x : Sat E W (isRd b s 0 :: pt q (.cells #[.string o] 9) :: L)) (n : Nat) (hn : n ≤ s.size) (_hs : s.size ≤ 9223372036854775807) :
    Calls Tryz.prog 101 #[.pointer (some ⟨b, 0, none⟩), .int .i64 n, .func (.func 103) #[] #[.pointer (some ⟨q, 0, none⟩)]] W fun e w' =>
      e = .returned (.tuple #[]) ∧ Sat E w' (isRd b (s.extract n s.size) 0 :: pt q (.cells #[.string (s.extract 0 n)] 9) :: L) := by
  have c0 := cell_blk x.at 0
  have f0 := frozen_blk x.at 0
  have HX := Lib.hid x
  clear x
  go_enter Tryz.func101, Tryz.ntmps101
  go_wp2_with (first
    | (go_at_call 51; refine (rErr_ok HX.out).mono ?_; rintro e w2 ⟨rfl, rfl⟩)
    | (go_at_call 103; go_loud (refine (padded1_ok (HX.out.setCell 0 (.string (s.extract n s.size))).p1 (s.extract 0 n)).mono ?_; rintro e w3 ⟨rfl, hx3⟩)))
  refine bodyPost_end (results_none rfl _ _ _) rfl ⟨rfl, ?_⟩
  exact hx3.p1
set_option maxRecDepth 100000 in
set_option maxHeartbeats 800000 in
theorem take_nought {E W : World} {L : List HP} {b : Nat} {s : ByteArray} (x : Sat E W (isRd b s 0 :: L)) (p : Value) (_hs : s.size ≤ 9223372036854775807) :
    Calls Tryz.prog 101 #[.pointer (some ⟨b, 0, none⟩), .int .i64 0, .func (.func 104) #[] #[p]] W fun e w' =>
      e = .returned (.tuple #[]) ∧ Sat E w' (isRd b s 0 :: L) := by
  have c0 := cell_blk x.at 0
  have f0 := frozen_blk x.at 0
  have hz : s.extract 0 0 = ByteArray.empty := extract_none s 0
  have hy : s.extract 0 s.size = s := ByteArray.extract_zero_size
  have hx2 := x.setCell 0 (.string s)
  have HX2 : Hid (Sat E _ (isRd b s 0 :: L)) := Lib.hid hx2
  have HX := Lib.hid x
  clear x hx2
  go_enter Tryz.func101, Tryz.ntmps101
  go_wp2_with (first
    | (go_at_call 51; refine (rErr_ok HX.out).mono ?_; rintro e w2 ⟨rfl, rfl⟩)
    | (go_at_call 104; go_loud (refine (padded2_ok _ p).mono ?_; rintro e w3 ⟨rfl, rfl⟩)))
  refine bodyPost_end (results_none rfl _ _ _) rfl ⟨rfl, ?_⟩
  exact HX2.out
set_option maxRecDepth 100000 in
set_option maxHeartbeats 1600000 in
theorem padded_ok {E W : World} {L : List HP} {b : Nat} {s : ByteArray} (x : Sat E W (isRd b s 0 :: L)) (h : 100 ≤ s.size) (hs : s.size ≤ 9223372036854775807) :
    Calls Tryz.prog 88 #[.pointer (some ⟨b, 0, none⟩), .int .i64 100] W fun e w' => e = .returned (.string (s.extract 0 100)) ∧ Sat E w' (isRd b (s.extract 100 s.size) 0 :: L) := by
  obtain ⟨q, hq⟩ : ∃ q, W.heap.size = q := ⟨_, rfl⟩
  have hx1 := (x.alloc (.cells #[.pointer (some ⟨b, 0, none⟩)] 82)).alloc (.cells #[.string ByteArray.empty] 9)
  rw [World.size_alloc, hq] at hx1
  have q0 := cell_blk hx1.p1.at 0
  have hx2 := hx1.p2
  have hsz : (s.extract 100 s.size).size ≤ 9223372036854775807 := by rw [ByteArray.size_extract]; omega
  have HSZ := Lib.hid hsz
  have HX2 := Lib.hid hx2
  clear hx1 hx2 x hsz
  have hp0 : padN 100 = 0 := rfl
  go_enter Tryz.func88, Tryz.ntmps88
  go_wp2_with (go_at_call 101; refine (take_str HX2.out 100 h hs).mono ?_; rintro e w3 ⟨rfl, hx3⟩; have hx4 := hx3.drew; have q4 := cell_blk hx4.p2.at 0; have HX4 := Lib.hid hx4; clear hx3 hx4 q0)
  refine wp_region_planL [(0, true), (1, true), (3, true), (2, false), (4, false)]
    [(5, fun w1 => w1.cell? ⟨q, 0, none⟩ = some (.pointer (some ⟨b, 0, none⟩)))] (by kernel_rfl) (by kernel_rfl) (by intro c a d v w h; cases d <;> exact h) ?_ ?_
  · exact ⟨q4, trivial⟩
  simp only [planOps, List.getElem?_cons_zero, List.getElem?_cons_succ]
  iterate 3 (first | ((apply plan_pure rfl; (intro w1; go_simp; try go_bits); with_reducible rfl); try simp only [Act.put, List.setIfInBounds_toArray, List.set_cons_zero, List.set_cons_succ]) | ((refine' plan_load 0 rfl (by kernel_rfl) rfl ?_ ?_; rotate_left; (intro w1 hw1; go_simp; with_reducible rfl)); try simp only [Act.put, List.setIfInBounds_toArray, List.set_cons_zero, List.set_cons_succ]))
  refine plan_loud rfl (fun K hK => ?_); go_simp
  refine (padw_ok 100 (by omega) _).mono ?_
  rintro e w5 ⟨rfl, rfl⟩
  rw [hp0]
  dsimp only
  refine hK _ _ ⟨q4, trivial⟩ ?_
  clear hK K
  try simp only [Act.put, List.setIfInBounds_toArray, List.set_cons_zero, List.set_cons_succ]
  refine plan_loud rfl (fun K hK => ?_); go_simp
  refine (take_nought HX4.out _ HSZ.out).mono ?_
  rintro e w6 ⟨rfl, hx6⟩
  dsimp only
  have q6 := cell_blk hx6.p2.at 0
  have s6 := cell_blk hx6.p1.at 0
  have HX6 := Lib.hid hx6
  clear hx6
  refine hK _ _ ⟨q6, trivial⟩ ?_
  clear hK K q4
  try simp only [Act.put, List.setIfInBounds_toArray, List.set_cons_zero, List.set_cons_succ]
  refine plan_nil ?_
  go_wp2_with (go_at_call 51; refine (rErr_ok HX6.out).mono ?_; rintro e w7 ⟨rfl, rfl⟩)
  go_ret
  exact ⟨rfl, HX6.out.p2.tail.p1.tail⟩
set_option maxRecDepth 100000 in
theorem rFixed_ok {E W : World} {L : List HP} {b : Nat} {s : ByteArray} (x : Sat E W (isRd b s 0 :: L)) (h : 100 ≤ s.size) (hs : s.size ≤ 9223372036854775807) :
    Calls Tryz.prog 50 #[.pointer (some ⟨b, 0, none⟩), .int .i64 100] W fun e w' => e = .returned (.string (s.extract 0 100)) ∧ Sat E w' (isRd b (s.extract 100 s.size) 0 :: L) := by
  have HX := Lib.hid x
  clear x
  go_enter Tryz.func50, Tryz.ntmps50
  go_wp2_with (first
    | (go_at_call 51; refine (rErr_ok HX.out).mono ?_; rintro e w7 ⟨rfl, rfl⟩)
    | (go_at_call 88; refine (padded_ok HX.out h hs).mono ?_; rintro e w8 ⟨rfl, hx8⟩))
  go_ret
  exact ⟨rfl, hx8⟩
theorem rFixed_bad {E W : World} {L : List HP} {b : Nat} {s : ByteArray} {err : Int} (he : err ≠ 0) (x : Sat E W (isRd b s err :: L)) (n : Int) :
    Calls Tryz.prog 50 #[.pointer (some ⟨b, 0, none⟩), .int .i64 n] W fun e w' => e = .returned (.string ByteArray.empty) ∧ w' = W := by
  have HX := Lib.hid x
  have hb : (err != 0) = true := by simp [he]
  clear x
  go_enter Tryz.func50, Tryz.ntmps50
  go_wp2_with (go_at_call 51; refine (rErr_ok HX.out).mono ?_; rintro e w7 ⟨rfl, rfl⟩)
  go_ret
  exact ⟨rfl, rfl⟩
end Go.Proofs.YtmkpglabiikdeaaGreatDoor
