/-
  posthouse/fh: a handle's bytes, walked.
-/
import Derived.Test.YtodjdcdbmbmbmaaGreatDoorXdrN
import Derived.Test.YtodjdcdbmbmbmaaGreatDoorPost
import Derived.Test.YtodjdcdbmbmbmaaGreatDoorOpq
namespace Go.Proofs.YtodjdcdbmbmbmaaGreatDoor
open Go.RowKit PH

theorem wU32_int {E W : World} {L : List HP} {b : Nat} {l : List Nat} (x : Sat E W (isWr b l :: L)) (hl : l.length ≤ 10000000) (n : Int) (h0 : 0 ≤ n) (hn : n < 4294967296) (m : List Nat) (hm : numL n.toNat 4 = m) :
    Calls Tryz.prog 72 #[.pointer (some ⟨b, 0, none⟩), .int .i64 n] W fun e w' => e = .returned (.int .i64 0) ∧ Sat E w' (isWr b (l ++ m) :: L) := by
  obtain ⟨k, rfl⟩ := Int.eq_ofNat_of_zero_le h0
  subst hm
  exact wU32_ok x hl k (by omega)
theorem bytes_range {E w : World} {L : List HP} {g : Nat} {l : List Nat} (hl : okBytes l) (x : Sat E w (bytesAt g (bs l) :: L)) : w.rangeAt g 0 (cellsB l) := fun j v hj => by
  have hjl : j < l.length := by
    have := (List.getElem?_eq_some_iff.1 hj).1
    rwa [cellsB_len] at this
  rw [Nat.zero_add, bytesAt_get x (by rw [bs_size]; exact hjl), byt_bs hl]
  simp only [cellsB, List.getElem?_map, List.getElem?_eq_getElem hjl, Option.map_some, Option.some.injEq] at hj
  rw [← hj, List.getD_eq_getElem?_getD, List.getElem?_eq_getElem hjl]
  rfl
theorem row_there {E w : World} {L : List HP} {b : Nat} {c : Array Value} {ty : TypeId} (x : Sat E w (pt b (.cells c ty) :: L)) : w.there b 0 c.size := fun j hj => by
  rw [Nat.zero_add]
  exact ⟨by rw [cell_blk x.at, Array.getElem?_eq_getElem hj]; rfl, frozen_blk x.at j⟩
theorem row_store {E w : World} {L : List HP} {b : Nat} {c : Array Value} {ty : TypeId} (x : Sat E w (pt b (.cells c ty) :: L)) (vs : List Value) (h : c.size = vs.length) : Sat E (w.setCells b 0 vs) (pt b (.cells vs.toArray ty) :: L) := by
  have hs := Sat.setCells vs 0 w c x
  have e : putCells c 0 vs = vs.toArray := by
    apply Array.toList_inj.1
    have ht := putCells_take vs c 0 (by omega)
    rw [Nat.zero_add, List.take_zero, List.nil_append, List.take_of_length_le (by rw [Array.length_toList, putCells_size]; omega)] at ht
    exact ht
  rwa [e] at hs
theorem wpl_store {P : Program} {ops : Array Oper} {Q : Exit → Act → World → Prop} {rest : List Oper} {ac : Act} {w : World} {d : Option Tmp} {k k2 : Tmp} {ty : TypeId} {pos : String} {af : Array Edge} (t : TypeId) (b : Nat) (cs : List Value)
    (ht : w.there b 0 cs.toArray.size) (hi : (P.info? t).map (·.size) = some cs.toArray.size) (h1 : cs.toArray.all (·.oneCell') = true)
    (hx : ac.eval (.tmp k) = .pointer (some ⟨b, 0, none⟩)) (hy : ac.eval (.tmp k2) = .agg cs.toArray) (h : wpList P ops Q rest (ac.put d undef) (w.setCells b 0 cs)) :
    wpList P ops Q ({ dst := d, op := .store t (.tmp k) (.tmp k2), type := ty, pos := pos, after := af, guard := none } :: rest) ac w :=
  wpList_store_mid rfl t _ _ rfl b 0 cs.toArray hx hy ht hi h1 (by simpa using h)
theorem cellsB_one (l : List Nat) : (cellsB l).toArray.all (·.oneCell') = true := all_oneCell_toArray fun v hv => by
  obtain ⟨c, _, rfl⟩ := List.mem_map.1 hv
  rfl
/-- A handle's bytes. -/
def hL (k A B : Nat) : List Nat := k :: 0 :: 0 :: 0 :: (numL A 4 ++ numL B 8)
theorem hL_ok (k A B : Nat) (hk : k < 256) : okBytes (hL k A B) := by
  intro c hc
  simp only [hL, List.mem_cons, List.mem_append] at hc
  rcases hc with rfl | rfl | rfl | rfl | h | h
  · exact hk
  · omega
  · omega
  · omega
  · exact numL_ok A 4 c h
  · exact numL_ok B 8 c h
theorem hL_len (k A B : Nat) : (hL k A B).length = 16 := by simp [hL, numL_len]
theorem wU32_no (W : World) (b : Nat) (n : Int) (hn : n < 0 ∨ 4294967296 ≤ n) (h2 : n ≤ 9223372036854775807) (h3 : -9223372036854775808 ≤ n) :
    Calls Tryz.prog 72 #[.pointer (some ⟨b, 0, none⟩), .int .i64 n] W fun e w' => e = .returned (.int .i64 3) ∧ w' = W := by
  rcases hn with hn | hn
  · go_enter Tryz.func72, Tryz.ntmps72
    go_wp2
    go_ret
    exact ⟨rfl, rfl⟩
  · have hd : n / 4294967296 ≠ 0 := by omega
    have hd0 : ¬ (n < 0) := by omega
    go_enter Tryz.func72, Tryz.ntmps72
    go_wp2
    go_ret
    exact ⟨rfl, rfl⟩
theorem run_toArr (w : World) (g cap : Nat) : (Instr.arrayAt 98 (.slice (some ⟨g, 0, none⟩) 16 cap)).run Tryz.prog w = .ok (.pointer (some ⟨g, 0, none⟩)) w := by
  simp [Instr.arrayAt, run_underlying Tryz.underlying98]
abbrev zero16 : Array Value := #[.int .u8 0, .int .u8 0, .int .u8 0, .int .u8 0, .int .u8 0, .int .u8 0, .int .u8 0, .int .u8 0, .int .u8 0, .int .u8 0, .int .u8 0, .int .u8 0, .int .u8 0, .int .u8 0, .int .u8 0, .int .u8 0]
set_option maxRecDepth 100000 in
set_option maxHeartbeats 800000 in
theorem laid_ok {E W : World} {L : List HP} (x : Sat E W L) (k A B : Nat) (hk : k = 1 ∨ k = 2) (hA : A < 4294967296) (hB : B ≤ 9223372036854775807) :
    Calls Tryz.prog 37 #[.agg #[.int .i64 k, .int .i64 A, .int .i64 B]] W fun e w' => e = .returned (.tuple #[.agg (cellsB (hL k A B)).toArray, .bool true]) ∧ Sat E w' L := by
  have hx0 : Sat E (((W.alloc (.cells #[.int .i64 k, .int .i64 A, .int .i64 B] 24)).alloc (.cells zero16 98)).alloc (.cells #[.slice none 0 0] 178)) (isWr (W.heap.size + 1 + 1) [] :: pt (W.heap.size + 1) (.cells zero16 98) :: pt W.heap.size (.cells #[.int .i64 k, .int .i64 A, .int .i64 B] 24) :: L) := by
    have h := ((x.alloc (.cells #[.int .i64 k, .int .i64 A, .int .i64 B] 24)).alloc (.cells zero16 98)).alloc (.cells #[.slice none 0 0] 178)
    simp only [World.size_alloc] at h
    exact wr_close (v := .slice none 0 0) (l := []) (h.rowNil 5 1).p1
  have HX := Lib.hid hx0
  clear hx0 x
  have numK1 : numL (16777216 : Int).toNat 4 = [1, 0, 0, 0] := by kernel_rfl
  have numK2 : numL (33554432 : Int).toNat 4 = [2, 0, 0, 0] := by kernel_rfl
  have h16 : (bs (hL k A B)).size = 16 := by rw [bs_size, hL_len]
  have hi16 : (Tryz.prog.info? 98).map (·.size) = some (cellsB (hL k A B)).length := by rw [cellsB_len, hL_len]; kernel_rfl
  have hi16a : (Tryz.prog.info? 98).map (·.size) = some (cellsB (hL k A B)).toArray.size := by rw [List.size_toArray]; exact hi16
  have hok : okBytes (hL k A B) := hL_ok k A B (by omega)
  have hone := cellsB_one (hL k A B)
  have h16s : (cellsB (hL k A B)).toArray.size = 16 := by rw [List.size_toArray, cellsB_len, hL_len]
  rcases hk with rfl | rfl
  · have hlK : ([] ++ [1, 0, 0, 0] ++ numL A 4 ++ numL B 8 : List Nat) = hL 1 A B := rfl
    go_enter Tryz.func37, Tryz.ntmps37
    go_wp2_with (first
      | (go_at_call 72; refine (wU32_ok HX2.out (by simp [numL_len]) A hA).mono ?_; rintro e w3 ⟨rfl, hx3⟩; have c2 : w3.cell? ⟨W.heap.size, 2, none⟩ = some (.int .i64 B) := cell_blk hx3.p2.at 2; have HX3 := Lib.hid hx3; clear hx3)
      | (go_at_call 72; refine (wU32_int HX.out (by simp) 16777216 (by omega) (by omega) _ numK1).mono ?_; rintro e w2 ⟨rfl, hx2⟩; have c1 : w2.cell? ⟨W.heap.size, 1, none⟩ = some (.int .i64 A) := cell_blk hx2.p2.at 1; have HX2 := Lib.hid hx2; clear hx2)
      | (go_at_call 73; refine (wU64_ok HX3.out (by simp [numL_len]) B hB).mono ?_; rintro e w4 ⟨rfl, hx4⟩; have HX4 := Lib.hid hx4; clear hx4)
      | (go_at_call 74; refine (wText_ok HX4.out).mono ?_; rw [hlK]; rintro e w5 ⟨rfl, rfl⟩; obtain ⟨g, cap, w6, hcv, hx6⟩ := convBytes HX4.out (bs (hL 1 A B)); rw [h16] at hcv; have hr := bytes_range hok hx6; have HT := Lib.hid (row_there hx6.p2); have HX6 := Lib.hid hx6; clear hx6)
      | (simp only [run_toArr, Result.andThen_ok]; go_simp)
      | (with_reducible refine wpl_load 98 g 0 (cellsB (hL 1 A B)) _ ?_ hr Tryz.underlying98 rfl hi16 ?_)
      | (with_reducible refine wpl_store 98 (W.heap.size + 1) (cellsB (hL 1 A B)) ?_ hi16a hone ?_ ?_ ?_))
    all_goals first
      | rfl
      | (rw [h16s]; exact HT.out)
      | (have z := row_store HX6.out.p2 (cellsB (hL 1 A B)) (by rw [cellsB_len, hL_len]; rfl)
         exact post_row2 rfl (W.heap.size + 1) 98 _ (0, 0) _ rfl z.at Tryz.underlying98 rfl hi16a rfl ⟨rfl, z.tail.tail.tail.tail⟩)
  · have hlK : ([] ++ [2, 0, 0, 0] ++ numL A 4 ++ numL B 8 : List Nat) = hL 2 A B := rfl
    go_enter Tryz.func37, Tryz.ntmps37
    go_wp2_with (first
      | (go_at_call 72; refine (wU32_ok HX2.out (by simp [numL_len]) A hA).mono ?_; rintro e w3 ⟨rfl, hx3⟩; have c2 : w3.cell? ⟨W.heap.size, 2, none⟩ = some (.int .i64 B) := cell_blk hx3.p2.at 2; have HX3 := Lib.hid hx3; clear hx3)
      | (go_at_call 72; refine (wU32_int HX.out (by simp) 33554432 (by omega) (by omega) _ numK2).mono ?_; rintro e w2 ⟨rfl, hx2⟩; have c1 : w2.cell? ⟨W.heap.size, 1, none⟩ = some (.int .i64 A) := cell_blk hx2.p2.at 1; have HX2 := Lib.hid hx2; clear hx2)
      | (go_at_call 73; refine (wU64_ok HX3.out (by simp [numL_len]) B hB).mono ?_; rintro e w4 ⟨rfl, hx4⟩; have HX4 := Lib.hid hx4; clear hx4)
      | (go_at_call 74; refine (wText_ok HX4.out).mono ?_; rw [hlK]; rintro e w5 ⟨rfl, rfl⟩; obtain ⟨g, cap, w6, hcv, hx6⟩ := convBytes HX4.out (bs (hL 2 A B)); rw [h16] at hcv; have hr := bytes_range hok hx6; have HT := Lib.hid (row_there hx6.p2); have HX6 := Lib.hid hx6; clear hx6)
      | (simp only [run_toArr, Result.andThen_ok]; go_simp)
      | (with_reducible refine wpl_load 98 g 0 (cellsB (hL 2 A B)) _ ?_ hr Tryz.underlying98 rfl hi16 ?_)
      | (with_reducible refine wpl_store 98 (W.heap.size + 1) (cellsB (hL 2 A B)) ?_ hi16a hone ?_ ?_ ?_))
    all_goals first
      | rfl
      | (rw [h16s]; exact HT.out)
      | (have z := row_store HX6.out.p2 (cellsB (hL 2 A B)) (by rw [cellsB_len, hL_len]; rfl)
         exact post_row2 rfl (W.heap.size + 1) 98 _ (0, 0) _ rfl z.at Tryz.underlying98 rfl hi16a rfl ⟨rfl, z.tail.tail.tail.tail⟩)
set_option maxRecDepth 100000 in
set_option maxHeartbeats 800000 in
theorem laid_no {E W : World} {L : List HP} (x : Sat E W L) (k : Nat) (A B : Int) (hk : k = 1 ∨ k = 2) (hA : 4294967296 ≤ A) (hA2 : A ≤ 9223372036854775807) :
    Calls Tryz.prog 37 #[.agg #[.int .i64 k, .int .i64 A, .int .i64 B]] W fun e w' => e = .returned (.tuple #[.agg zero16, .bool false]) ∧ Sat E w' L := by
  have hx0 : Sat E (((W.alloc (.cells #[.int .i64 k, .int .i64 A, .int .i64 B] 24)).alloc (.cells zero16 98)).alloc (.cells #[.slice none 0 0] 178)) (isWr (W.heap.size + 1 + 1) [] :: pt (W.heap.size + 1) (.cells zero16 98) :: pt W.heap.size (.cells #[.int .i64 k, .int .i64 A, .int .i64 B] 24) :: L) := by
    have h := ((x.alloc (.cells #[.int .i64 k, .int .i64 A, .int .i64 B] 24)).alloc (.cells zero16 98)).alloc (.cells #[.slice none 0 0] 178)
    simp only [World.size_alloc] at h
    exact wr_close (v := .slice none 0 0) (l := []) (h.rowNil 5 1).p1
  have HX := Lib.hid hx0
  clear hx0 x
  have numK1 : numL (16777216 : Int).toNat 4 = [1, 0, 0, 0] := by kernel_rfl
  have numK2 : numL (33554432 : Int).toNat 4 = [2, 0, 0, 0] := by kernel_rfl
  have hiz : (Tryz.prog.info? 98).map (·.size) = some zero16.size := by kernel_rfl
  rcases hk with rfl | rfl
  · go_enter Tryz.func37, Tryz.ntmps37
    go_wp2_with (first
      | (go_at_call 72; refine (wU32_no w2 (W.heap.size + 1 + 1) A (.inr hA) hA2 (by omega)).mono ?_; rintro e w3 ⟨rfl, rfl⟩)
      | (go_at_call 72; refine (wU32_int HX.out (by simp) 16777216 (by omega) (by omega) _ numK1).mono ?_; rintro e w2 ⟨rfl, hx2⟩; have c1 : w2.cell? ⟨W.heap.size, 1, none⟩ = some (.int .i64 A) := cell_blk hx2.p2.at 1; have hz : ∀ i, w2.cell? ⟨W.heap.size + 1, i, none⟩ = (zero16)[i]? := (fun i => cell_blk hx2.p1.at i); have hfz : ∀ i, w2.frozen? ⟨W.heap.size + 1, i, none⟩ = false := (fun i => frozen_blk hx2.p1.at i); have HX2 := Lib.hid hx2; clear hx2))
    (try simp only [Exit.inBlock, Exit.then])
    have y := HX2.out.p1
    have z := ((((((((((((((((y.setCell 0 (.int .u8 0)).setCell 1 (.int .u8 0)).setCell 2 (.int .u8 0)).setCell 3 (.int .u8 0)).setCell 4 (.int .u8 0)).setCell 5 (.int .u8 0)).setCell 6 (.int .u8 0)).setCell 7 (.int .u8 0)).setCell 8 (.int .u8 0)).setCell 9 (.int .u8 0)).setCell 10 (.int .u8 0)).setCell 11 (.int .u8 0)).setCell 12 (.int .u8 0)).setCell 13 (.int .u8 0)).setCell 14 (.int .u8 0)).setCell 15 (.int .u8 0))
    exact post_row2 rfl (W.heap.size + 1) 98 _ (0, 0) _ rfl z.at Tryz.underlying98 rfl hiz rfl ⟨rfl, z.tail.tail.tail⟩
  · go_enter Tryz.func37, Tryz.ntmps37
    go_wp2_with (first
      | (go_at_call 72; refine (wU32_no w2 (W.heap.size + 1 + 1) A (.inr hA) hA2 (by omega)).mono ?_; rintro e w3 ⟨rfl, rfl⟩)
      | (go_at_call 72; refine (wU32_int HX.out (by simp) 33554432 (by omega) (by omega) _ numK2).mono ?_; rintro e w2 ⟨rfl, hx2⟩; have c1 : w2.cell? ⟨W.heap.size, 1, none⟩ = some (.int .i64 A) := cell_blk hx2.p2.at 1; have hz : ∀ i, w2.cell? ⟨W.heap.size + 1, i, none⟩ = (zero16)[i]? := (fun i => cell_blk hx2.p1.at i); have hfz : ∀ i, w2.frozen? ⟨W.heap.size + 1, i, none⟩ = false := (fun i => frozen_blk hx2.p1.at i); have HX2 := Lib.hid hx2; clear hx2))
    (try simp only [Exit.inBlock, Exit.then])
    have y := HX2.out.p1
    have z := ((((((((((((((((y.setCell 0 (.int .u8 0)).setCell 1 (.int .u8 0)).setCell 2 (.int .u8 0)).setCell 3 (.int .u8 0)).setCell 4 (.int .u8 0)).setCell 5 (.int .u8 0)).setCell 6 (.int .u8 0)).setCell 7 (.int .u8 0)).setCell 8 (.int .u8 0)).setCell 9 (.int .u8 0)).setCell 10 (.int .u8 0)).setCell 11 (.int .u8 0)).setCell 12 (.int .u8 0)).setCell 13 (.int .u8 0)).setCell 14 (.int .u8 0)).setCell 15 (.int .u8 0))
    exact post_row2 rfl (W.heap.size + 1) 98 _ (0, 0) _ rfl z.at Tryz.underlying98 rfl hiz rfl ⟨rfl, z.tail.tail.tail⟩
end Go.Proofs.YtodjdcdbmbmbmaaGreatDoor
