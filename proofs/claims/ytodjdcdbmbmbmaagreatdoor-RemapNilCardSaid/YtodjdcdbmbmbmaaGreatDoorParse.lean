/-
  posthouse/fh: Parse, walked.
-/
import Derived.Test.YtodjdcdbmbmbmaaGreatDoorParseP
namespace Go.Proofs.YtodjdcdbmbmbmaaGreatDoor
open Go.RowKit PH

/-- What a list of resources knows of the variable posthouse/fh.none. -/
def Knows (E : World) (L : List HP) : Prop := ∀ w, Sat E w L → ∃ e, w.heap[0]? = some (.cells #[.int .i64 0, .int .i64 0, .int .i64 0] e (0, 0))
abbrev pt3 (a b c : Int) : Array Value := #[.int .i64 a, .int .i64 b, .int .i64 c]
theorem isz3 (a b c : Int) : (Tryz.prog.info? 24).map (·.size) = some (pt3 a b c).size := by kernel_rfl
set_option maxRecDepth 100000 in
set_option maxHeartbeats 800000 in
theorem parse_size {E W : World} {L : List HP} (x : Sat E W L) (hk : Knows E L) (s : ByteArray) (hz : s.size ≠ 16) :
    Calls Tryz.prog 18 #[.string s] W fun e w' => e = .returned (.tuple #[.agg (pt3 0 0 0), .int .i64 14]) ∧ Sat E w' L := by
  have hx0 := x.alloc (.cells (pt3 0 0 0) 24)
  obtain ⟨e, hg⟩ := hk _ hx0.tail
  have g0 := cell_blk hg 0
  have g1 := cell_blk hg 1
  have g2 := cell_blk hg 2
  have HX := Lib.hid hx0
  clear hx0 x hg
  go_enter Tryz.func18, Tryz.ntmps18
  go_wp2
  have z := HX.out
  exact post_row2 rfl W.heap.size 24 _ (0, 0) _ rfl z.at Tryz.underlying24 rfl (isz3 0 0 0) rfl ⟨rfl, z.tail⟩
theorem U32_to {E W : World} {L : List HP} {b p q : Nat} {S : ByteArray} (hq : p + 4 = q) (x : Sat E W (isRd b (left S p) 0 :: L)) (h : p + 4 ≤ S.size) (hs : S.size ≤ 9223372036854775807) :
    Calls Tryz.prog 35 #[.pointer (some ⟨b, 0, none⟩)] W fun e w' => e = .returned (.int .i64 (fld S p 4)) ∧ Sat E w' (isRd b (left S q) 0 :: L) := by
  subst hq; exact rU32_at x h hs
theorem op_load16 {a : Act} {o : Oper} {x : Operand} {C : Array Value} {z : Nat} {w : World} (ho : o.op = .load 98 x) (hx : a.eval x = .pointer (some ⟨z, 0, none⟩)) (h : w.heap[z]? = some (.cells C 98))
    (hi : (Tryz.prog.info? 98).map (·.size) = some C.size) : (execOp a.eval o).run Tryz.prog w = .ok (.value (.agg C)) w := by
  have hl := run_loadVar_row w z 98 98 C (0, 0) _ h Tryz.underlying98 rfl hi
  have e : (Instr.sureAddr (.pointer (some ⟨z, 0, none⟩))).run Tryz.prog w = .ok ⟨z, 0, none⟩ w := rfl
  unfold execOp
  simp only [ho, hx, Instr.loadAt, Sem.run_bind, e, Result.andThen_ok, hl, Sem.run_pure]
/-- What the parser answers of sixteen bytes. -/
def pR (s : ByteArray) : Value := if okH s then .tuple #[.agg (pt3 (byt s 0) (fld s 4 4) (fld s 8 8)), .int .i64 0] else .tuple #[.agg (pt3 0 0 0), .int .i64 14]
theorem pR_no {s : ByteArray} (h : ¬ okH s) : pR s = .tuple #[.agg (pt3 0 0 0), .int .i64 14] := if_neg h
/-- What a handle's parts are, as its reader reads them; whether it reads them. -/
def pB (s : ByteArray) : Nat := if fld s 8 8 ≤ 9223372036854775807 then fld s 8 8 else 0
def pE (s : ByteArray) : Int := if fld s 8 8 ≤ 9223372036854775807 then 0 else 3
def pS (s : ByteArray) : ByteArray := if fld s 8 8 ≤ 9223372036854775807 then left s 16 else ByteArray.empty
theorem U64_p {E W : World} {L : List HP} {b : Nat} {s : ByteArray} (x : Sat E W (isRd b (left s 8) 0 :: L)) (hz : s.size = 16) :
    Calls Tryz.prog 36 #[.pointer (some ⟨b, 0, none⟩)] W fun e w' => e = .returned (.int .i64 (pB s)) ∧ Sat E w' (isRd b (pS s) (pE s) :: L) := by
  unfold pB pE pS
  by_cases c : fld s 8 8 ≤ 9223372036854775807
  · rw [if_pos c, if_pos c, if_pos c]
    exact rU64_at x (by omega) (by omega) c
  · rw [if_neg c, if_neg c, if_neg c]
    exact rU64_top x (by omega) (by omega) c
theorem pR_yes {s : ByteArray} (h : okH s) : pR s = .tuple #[.agg (pt3 (byt s 0) (fld s 4 4) (pB s)), .int .i64 0] := by
  unfold pR pB
  rw [if_pos h, if_pos h.2.2.2.2]
theorem pB_le (s : ByteArray) : pB s ≤ 9223372036854775807 := by
  unfold pB; split <;> omega
theorem done_p {E W : World} {L : List HP} {b : Nat} {s : ByteArray} (x : Sat E W (isRd b (pS s) (pE s) :: L)) (hz : s.size = 16) :
    Calls Tryz.prog 38 #[.pointer (some ⟨b, 0, none⟩)] W fun e w' => e = .returned (.int .i64 (pE s)) ∧ Sat E w' (isRd b (pS s) (pE s) :: L) := by
  by_cases c : fld s 8 8 ≤ 9223372036854775807
  · have e1 : pE s = 0 := by unfold pE; rw [if_pos c]
    have e2 : pS s = left s 16 := by unfold pS; rw [if_pos c]
    rw [e1] at x ⊢
    exact rDone_ok x (by rw [e2, left_size]; omega)
  · have e1 : pE s = 3 := by unfold pE; rw [if_neg c]
    rw [e1] at x ⊢
    exact rDone_no x (by omega)
set_option maxRecDepth 100000 in
set_option maxHeartbeats 1600000 in
theorem parse_bad {E W : World} {L : List HP} (x : Sat E W L) (hk : Knows E L) (s : ByteArray) (hz : s.size = 16) (h1 : byt s 0 ≠ 1) (h2 : byt s 0 ≠ 2) :
    Calls Tryz.prog 18 #[.string s] W fun e w' => e = .returned (.tuple #[.agg (pt3 0 0 0), .int .i64 14]) ∧ Sat E w' L := by
  obtain ⟨q, hq⟩ : ∃ q, W.heap.size = q := ⟨_, rfl⟩
  have hx0 := x.alloc (.cells (pt3 0 0 0) 24)
  rw [hq] at hx0
  have HX := Lib.hid hx0
  clear x hx0
  have hs : s.size ≤ 9223372036854775807 := by omega
  have hl0 := left_all s
  have hK : ((fld s 0 4 : Nat) : Int) / 16777216 = ((byt s 0 : Nat) : Int) := by have := fld_kind s; omega
  go_enter Tryz.func18, Tryz.ntmps18
  go_wp2_with (first
    | (go_at_call 34; with_reducible refine (rRead_ok HX.out s).mono ?_; rintro e2 w2 ⟨b, rfl, hx2⟩; rw [← hl0] at hx2; have HX2 := Lib.hid hx2; clear hx2)
    | (go_at_call 35; with_reducible refine (U32_to (p := 0) (q := 4) rfl HX2.out (by omega) hs).mono ?_; rintro e3 w3 ⟨rfl, hx3⟩; have HX3 := Lib.hid hx3; clear hx3)
    | (go_at_call 35; with_reducible refine (U32_to (p := 4) (q := 8) rfl HX3.out (by omega) hs).mono ?_; rintro e4 w4 ⟨rfl, hx4⟩; have HX4 := Lib.hid hx4; clear hx4)
    | (go_at_call 36; with_reducible refine (U64_p HX4.out hz).mono ?_; rintro e5 w5 ⟨rfl, hx5⟩; have HX5 := Lib.hid (hx5.alloc (.cells (pt3 (byt s 0) (fld s 4 4) (pB s)) 24)); clear hx5)
    | (go_at_call 37; with_reducible refine (laid_bad HX5.out (byt s 0) (fld s 4 4) (pB s) (by omega) (by omega)).mono ?_; rintro e6 w6 ⟨rfl, hx6⟩; have HX6 := Lib.hid ((hx6.alloc (.cells zero16 98)).drew); clear hx6))
  have HD := Lib.hid (done_p HX6.out.p2 hz)
  refine wp_region_planL [(0, true), (1, false), (2, true), (3, true), (4, true), (5, true), (6, true), (7, true), (8, true), (9, true), (10, true), (11, true), (12, true), (13, true), (14, true)] [] (by kernel_rfl) (by kernel_rfl) (by intro c a d v w h; cases d <;> exact h) trivial ?_
  simp only [planOps, List.getElem?_cons_zero, List.getElem?_cons_succ]
  iterate 1 (first | (apply plan_skip rfl; try simp only [Act.put, List.setIfInBounds_toArray, List.set_cons_zero, List.set_cons_succ]) | ((apply plan_pure rfl; (intro w1; go_simp; try go_bits); with_reducible rfl); try simp only [Act.put, List.setIfInBounds_toArray, List.set_cons_zero, List.set_cons_succ]) | ((refine' plan_load 0 rfl (by kernel_rfl) rfl ?_ ?_; rotate_left; (intro w1 hw1; go_simp; with_reducible rfl)); try simp only [Act.put, List.setIfInBounds_toArray, List.set_cons_zero, List.set_cons_succ]))
  refine plan_loud rfl (fun K hK => ?_); go_simp
  refine HD.out.mono ?_
  rintro e7 w7 ⟨rfl, hx7⟩
  dsimp only
  refine hK _ _ trivial ?_
  clear hK K
  try simp only [Act.put, List.setIfInBounds_toArray, List.set_cons_zero, List.set_cons_succ]
  obtain ⟨eg, hg⟩ := hk _ hx7.tail.tail.tail.tail
  have g0 := cell_blk hg 0
  have g1 := cell_blk hg 1
  have g2 := cell_blk hg 2
  have hy := hx7.p3
  have d0 := frozen_blk hy.at 0
  have d1 := frozen_blk hy.at 1
  have d2 := frozen_blk hy.at 2
  have e0 := cell_blk hy.at 0
  have e1 := cell_blk hy.at 1
  have e2 := cell_blk hy.at 2
  have HY := Lib.hid hy
  clear hx7 hg hy HD
  by_cases hp : pE s = 0
  · rw [hp]
    iterate 13 (first | (apply plan_skip rfl; try simp only [Act.put, List.setIfInBounds_toArray, List.set_cons_zero, List.set_cons_succ]) | ((apply plan_pure rfl; (intro w1; go_simp; try go_bits); with_reducible rfl); try simp only [Act.put, List.setIfInBounds_toArray, List.set_cons_zero, List.set_cons_succ]) | ((refine' plan_load 0 rfl (by kernel_rfl) rfl ?_ ?_; rotate_left; (intro w1 hw1; go_simp; with_reducible rfl)); try simp only [Act.put, List.setIfInBounds_toArray, List.set_cons_zero, List.set_cons_succ]))
    refine plan_nil ?_
    go_wp2
    have z := ((HY.out.setCell 0 (.int .i64 0)).setCell 1 (.int .i64 0)).setCell 2 (.int .i64 0)
    exact post_row2 rfl q 24 _ (0, 0) _ rfl z.at Tryz.underlying24 rfl (isz3 0 0 0) rfl ⟨rfl, z.tail.tail.tail.tail⟩
  · have hpb : (pE s != 0) = true := by simp [hp]
    iterate 13 (first | (apply plan_skip rfl; try simp only [Act.put, List.setIfInBounds_toArray, List.set_cons_zero, List.set_cons_succ]) | ((apply plan_pure rfl; (intro w1; go_simp; try go_bits); with_reducible rfl); try simp only [Act.put, List.setIfInBounds_toArray, List.set_cons_zero, List.set_cons_succ]) | ((refine' plan_load 0 rfl (by kernel_rfl) rfl ?_ ?_; rotate_left; (intro w1 hw1; go_simp; with_reducible rfl)); try simp only [Act.put, List.setIfInBounds_toArray, List.set_cons_zero, List.set_cons_succ]))
    refine plan_nil ?_
    go_wp2
    have z := ((HY.out.setCell 0 (.int .i64 0)).setCell 1 (.int .i64 0)).setCell 2 (.int .i64 0)
    exact post_row2 rfl q 24 _ (0, 0) _ rfl z.at Tryz.underlying24 rfl (isz3 0 0 0) rfl ⟨rfl, z.tail.tail.tail.tail⟩
set_option maxRecDepth 100000 in
set_option maxHeartbeats 1600000 in
theorem parse_top {E W : World} {L : List HP} (x : Sat E W L) (hk : Knows E L) (s : ByteArray) (hz : s.size = 16) (h1 : byt s 0 = 1 ∨ byt s 0 = 2) (hp : ¬ pE s = 0) :
    Calls Tryz.prog 18 #[.string s] W fun e w' => e = .returned (pR s) ∧ Sat E w' L := by
  obtain ⟨q, hq⟩ : ∃ q, W.heap.size = q := ⟨_, rfl⟩
  have hx0 := x.alloc (.cells (pt3 0 0 0) 24)
  rw [hq] at hx0
  have HX := Lib.hid hx0
  clear x hx0
  have hs : s.size ≤ 9223372036854775807 := by omega
  have hl0 := left_all s
  have hK : ((fld s 0 4 : Nat) : Int) / 16777216 = ((byt s 0 : Nat) : Int) := by have := fld_kind s; omega
  have hA : fld s 4 4 < 4294967296 := fld_lt s 4 4
  obtain ⟨H, hH⟩ : ∃ H, hL (byt s 0) (fld s 4 4) (pB s) = H := ⟨_, rfl⟩
  have hHl : H.length = 16 := by rw [← hH, hL_len]
  have HO := Lib.hid (show okBytes H by rw [← hH]; exact hL_ok _ _ _ (byt_lt s 0))
  have HH := Lib.hid hH
  have hi16a : (Tryz.prog.info? 98).map (·.size) = some (cellsB H).toArray.size := by rw [List.size_toArray, cellsB_len, hHl]; kernel_rfl
  have hone := cellsB_one H
  have h16s : (cellsB H).toArray.size = 16 := by rw [List.size_toArray, cellsB_len, hHl]
  clear hH
  go_enter Tryz.func18, Tryz.ntmps18
  go_wp2_with (first
    | (go_at_call 34; with_reducible refine (rRead_ok HX.out s).mono ?_; rintro e2 w2 ⟨b, rfl, hx2⟩; rw [← hl0] at hx2; have HX2 := Lib.hid hx2; clear hx2)
    | (go_at_call 35; with_reducible refine (U32_to (p := 0) (q := 4) rfl HX2.out (by omega) hs).mono ?_; rintro e3 w3 ⟨rfl, hx3⟩; have HX3 := Lib.hid hx3; clear hx3)
    | (go_at_call 35; with_reducible refine (U32_to (p := 4) (q := 8) rfl HX3.out (by omega) hs).mono ?_; rintro e4 w4 ⟨rfl, hx4⟩; have HX4 := Lib.hid hx4; clear hx4)
    | (go_at_call 36; with_reducible refine (U64_p HX4.out hz).mono ?_; rintro e5 w5 ⟨rfl, hx5⟩; have HX5 := Lib.hid (hx5.alloc (.cells (pt3 (byt s 0) (fld s 4 4) (pB s)) 24)); clear hx5))
  have hlaid := laid_ok HX5.out (byt s 0) (fld s 4 4) (pB s) h1 hA (pB_le s)
  rw [HH.out] at hlaid
  refine hlaid.mono ?_
  clear hlaid
  rintro e6 w6 ⟨rfl, hx6⟩
  obtain ⟨z, hz6⟩ : ∃ z, w6.heap.size = z := ⟨_, rfl⟩
  have hx7 := hx6.alloc (.cells zero16 98)
  rw [hz6] at hx7
  have HT := Lib.hid (row_there hx7)
  have hx8 := (row_store hx7 (cellsB H) (by rw [cellsB_len, hHl]; rfl)).drew
  have HX6 := Lib.hid hx8
  clear hx6 hx7 hx8
  go_wp2_with (with_reducible refine wpl_store 98 z (cellsB H) ?_ hi16a hone ?_ ?_ ?_)
  all_goals first
    | rfl
    | (rw [h16s]; exact HT.out)
    | skip
  obtain ⟨C, hC⟩ : ∃ C, (cellsB H).toArray = C := ⟨_, rfl⟩
  have HC := Lib.hid hC
  rw [hC] at HX6 hi16a
  have HI16 := Lib.hid hi16a
  have HHL := Lib.hid hHl
  clear hC HT hi16a hone h16s hA hHl hK hl0
  have HD := Lib.hid (done_p HX6.out.p2 hz)
  have hpb : (pE s != 0) = true := by simp [hp]
  have hno : ¬ okH s := by
    intro h
    apply hp
    unfold pE
    rw [if_pos h.2.2.2.2]
  have HNO := Lib.hid hno
  clear hno
  refine wp_region_planL [(0, true), (1, false), (2, true), (3, true), (4, true), (5, true), (6, true), (7, true), (8, true), (9, true), (10, true), (11, true), (12, true), (13, true), (14, true)] [] (by kernel_rfl) (by kernel_rfl) (by intro c a d v w h; cases d <;> exact h) trivial ?_
  simp only [planOps, List.getElem?_cons_zero, List.getElem?_cons_succ]
  iterate 1 (first | (apply plan_skip rfl; try simp only [Act.put, List.setIfInBounds_toArray, List.set_cons_zero, List.set_cons_succ]) | ((apply plan_pure rfl; (intro w1; go_simp; try go_bits); with_reducible rfl); try simp only [Act.put, List.setIfInBounds_toArray, List.set_cons_zero, List.set_cons_succ]) | ((refine' plan_load 0 rfl (by kernel_rfl) rfl ?_ ?_; rotate_left; (intro w1 hw1; go_simp; with_reducible rfl)); try simp only [Act.put, List.setIfInBounds_toArray, List.set_cons_zero, List.set_cons_succ]))
  refine plan_loud rfl (fun K hK => ?_); go_simp
  refine HD.out.mono ?_
  rintro e7 w7 ⟨rfl, hx7⟩
  dsimp only
  refine hK _ _ trivial ?_
  clear hK K
  try simp only [Act.put, List.setIfInBounds_toArray, List.set_cons_zero, List.set_cons_succ]
  obtain ⟨eg, hg⟩ := hk _ hx7.tail.tail.tail.tail
  have g0 := cell_blk hg 0
  have g1 := cell_blk hg 1
  have g2 := cell_blk hg 2
  have hy := hx7.p3
  have d0 := frozen_blk hy.at 0
  have d1 := frozen_blk hy.at 1
  have d2 := frozen_blk hy.at 2
  have e0 := cell_blk hy.at 0
  have e1 := cell_blk hy.at 1
  have e2 := cell_blk hy.at 2
  have HY := Lib.hid hy
  clear hx7 hg hy HD
  iterate 13 (first | (apply plan_skip rfl; try simp only [Act.put, List.setIfInBounds_toArray, List.set_cons_zero, List.set_cons_succ]) | ((apply plan_pure rfl; (intro w1; go_simp; try go_bits); with_reducible rfl); try simp only [Act.put, List.setIfInBounds_toArray, List.set_cons_zero, List.set_cons_succ]) | ((refine' plan_load 0 rfl (by kernel_rfl) rfl ?_ ?_; rotate_left; (intro w1 hw1; go_simp; with_reducible rfl)); try simp only [Act.put, List.setIfInBounds_toArray, List.set_cons_zero, List.set_cons_succ]))
  refine plan_nil ?_
  go_wp2
  have z := ((HY.out.setCell 0 (.int .i64 0)).setCell 1 (.int .i64 0)).setCell 2 (.int .i64 0)
  rw [pR_no HNO.out]
  exact post_row2 rfl q 24 _ (0, 0) _ rfl z.at Tryz.underlying24 rfl (isz3 0 0 0) rfl ⟨rfl, z.tail.tail.tail.tail⟩
set_option maxRecDepth 100000 in
set_option maxHeartbeats 1600000 in
theorem parse_fit {E W : World} {L : List HP} (x : Sat E W L) (hk : Knows E L) (s : ByteArray) (hz : s.size = 16) (h1 : byt s 0 = 1 ∨ byt s 0 = 2) (hp : pE s = 0) :
    Calls Tryz.prog 18 #[.string s] W fun e w' => e = .returned (pR s) ∧ Sat E w' L := by
  obtain ⟨q, hq⟩ : ∃ q, W.heap.size = q := ⟨_, rfl⟩
  have hx0 := x.alloc (.cells (pt3 0 0 0) 24)
  rw [hq] at hx0
  have HX := Lib.hid hx0
  clear x hx0
  have hs : s.size ≤ 9223372036854775807 := by omega
  have hl0 := left_all s
  have hK : ((fld s 0 4 : Nat) : Int) / 16777216 = ((byt s 0 : Nat) : Int) := by have := fld_kind s; omega
  have hA : fld s 4 4 < 4294967296 := fld_lt s 4 4
  obtain ⟨H, hH⟩ : ∃ H, hL (byt s 0) (fld s 4 4) (pB s) = H := ⟨_, rfl⟩
  have hHl : H.length = 16 := by rw [← hH, hL_len]
  have HO := Lib.hid (show okBytes H by rw [← hH]; exact hL_ok _ _ _ (byt_lt s 0))
  have HH := Lib.hid hH
  have hi16a : (Tryz.prog.info? 98).map (·.size) = some (cellsB H).toArray.size := by rw [List.size_toArray, cellsB_len, hHl]; kernel_rfl
  have hone := cellsB_one H
  have h16s : (cellsB H).toArray.size = 16 := by rw [List.size_toArray, cellsB_len, hHl]
  clear hH
  go_enter Tryz.func18, Tryz.ntmps18
  go_wp2_with (first
    | (go_at_call 34; with_reducible refine (rRead_ok HX.out s).mono ?_; rintro e2 w2 ⟨b, rfl, hx2⟩; rw [← hl0] at hx2; have HX2 := Lib.hid hx2; clear hx2)
    | (go_at_call 35; with_reducible refine (U32_to (p := 0) (q := 4) rfl HX2.out (by omega) hs).mono ?_; rintro e3 w3 ⟨rfl, hx3⟩; have HX3 := Lib.hid hx3; clear hx3)
    | (go_at_call 35; with_reducible refine (U32_to (p := 4) (q := 8) rfl HX3.out (by omega) hs).mono ?_; rintro e4 w4 ⟨rfl, hx4⟩; have HX4 := Lib.hid hx4; clear hx4)
    | (go_at_call 36; with_reducible refine (U64_p HX4.out hz).mono ?_; rintro e5 w5 ⟨rfl, hx5⟩; have HX5 := Lib.hid (hx5.alloc (.cells (pt3 (byt s 0) (fld s 4 4) (pB s)) 24)); clear hx5))
  have hlaid := laid_ok HX5.out (byt s 0) (fld s 4 4) (pB s) h1 hA (pB_le s)
  rw [HH.out] at hlaid
  refine hlaid.mono ?_
  clear hlaid
  rintro e6 w6 ⟨rfl, hx6⟩
  obtain ⟨z, hz6⟩ : ∃ z, w6.heap.size = z := ⟨_, rfl⟩
  have hx7 := hx6.alloc (.cells zero16 98)
  rw [hz6] at hx7
  have HT := Lib.hid (row_there hx7)
  have hx8 := (row_store hx7 (cellsB H) (by rw [cellsB_len, hHl]; rfl)).drew
  have HX6 := Lib.hid hx8
  clear hx6 hx7 hx8
  go_wp2_with (with_reducible refine wpl_store 98 z (cellsB H) ?_ hi16a hone ?_ ?_ ?_)
  all_goals first
    | rfl
    | (rw [h16s]; exact HT.out)
    | skip
  obtain ⟨C, hC⟩ : ∃ C, (cellsB H).toArray = C := ⟨_, rfl⟩
  have HC := Lib.hid hC
  rw [hC] at HX6 hi16a
  have HI16 := Lib.hid hi16a
  have HHL := Lib.hid hHl
  clear hC HT hi16a hone h16s hA hHl hK hl0
  have HD := Lib.hid (done_p HX6.out.p2 hz)
  have hB8 : fld s 8 8 ≤ 9223372036854775807 := by
    unfold pE at hp
    split at hp
    · assumption
    · cases hp
  have hpB : pB s = fld s 8 8 := by unfold pB; rw [if_pos hB8]
  have hHs : (bs H).size = 16 := by rw [bs_size, HHL.out]
  have hne := fun w => neq16 hHs hz w
  rw [lst_bs HO.out, HC.out] at hne
  obtain ⟨C2, hC2⟩ : ∃ C2, (cellsB (lst s)).toArray = C2 := ⟨_, rfl⟩
  rw [hC2] at hne
  have HC2 := Lib.hid hC2
  obtain ⟨B, hB⟩ : ∃ B, decide (bs H ≠ s) = B := ⟨_, rfl⟩
  rw [hB] at hne
  have hok : okH s ↔ B = false := by
    rw [← hB, ← HH.out, hpB]
    have := hL_bs hz
    unfold okH
    simp only [ne_eq, decide_eq_false_iff_not, Decidable.not_not]
    rw [this]
    exact ⟨fun h => ⟨h.2.1, h.2.2.1, h.2.2.2.1⟩, fun h => ⟨h1, h.1, h.2.1, h.2.2, hB8⟩⟩
  have HNE := Lib.hid hne
  have HOK := Lib.hid hok
  clear hC2 hB hne hok hp hpB
  rw [show pE s = 0 from by unfold pE; rw [if_pos hB8]] at HD
  refine wp_region_planL [(0, true), (1, false), (2, true), (3, true), (4, true), (5, true), (6, true), (7, true), (8, true), (9, true), (10, false), (11, true), (12, false), (13, true), (14, true)] [(15, fun w1 => w1.heap[z]? = some (.cells C 98))] (by kernel_rfl) (by kernel_rfl) (by intro c a d v w h; cases d <;> exact h) ?_ ?_
  · exact ⟨HX6.out.at, trivial⟩
  simp only [planOps, List.getElem?_cons_zero, List.getElem?_cons_succ]
  iterate 1 (first | (apply plan_skip rfl; try simp only [Act.put, List.setIfInBounds_toArray, List.set_cons_zero, List.set_cons_succ]) | ((apply plan_pure rfl; (intro w1; go_simp; try go_bits); with_reducible rfl); try simp only [Act.put, List.setIfInBounds_toArray, List.set_cons_zero, List.set_cons_succ]) | ((refine' plan_load 0 rfl (by kernel_rfl) rfl ?_ ?_; rotate_left; (intro w1 hw1; go_simp; with_reducible rfl)); try simp only [Act.put, List.setIfInBounds_toArray, List.set_cons_zero, List.set_cons_succ]))
  refine plan_loud rfl (fun K hK => ?_); go_simp
  refine HD.out.mono ?_
  rintro e7 w7 ⟨rfl, hx7⟩
  dsimp only
  refine hK _ _ ⟨hx7.p1.at, trivial⟩ ?_
  clear hK K HD
  try simp only [Act.put, List.setIfInBounds_toArray, List.set_cons_zero, List.set_cons_succ]
  iterate 6 (first | (apply plan_skip rfl; try simp only [Act.put, List.setIfInBounds_toArray, List.set_cons_zero, List.set_cons_succ]) | ((apply plan_pure rfl; (intro w1; go_simp; try go_bits); with_reducible rfl); try simp only [Act.put, List.setIfInBounds_toArray, List.set_cons_zero, List.set_cons_succ]) | ((refine' plan_load 0 rfl (by kernel_rfl) rfl ?_ ?_; rotate_left; (intro w1 hw1; go_simp; with_reducible rfl)); try simp only [Act.put, List.setIfInBounds_toArray, List.set_cons_zero, List.set_cons_succ]))
  refine plan_load (v := .agg C) 0 rfl (by kernel_rfl) rfl (fun w1 hw1 => ?_) ?_
  · exact op_load16 rfl rfl hw1 HI16.out
  try simp only [Act.put, List.setIfInBounds_toArray, List.set_cons_zero, List.set_cons_succ]
  iterate 1 (first | (apply plan_skip rfl; try simp only [Act.put, List.setIfInBounds_toArray, List.set_cons_zero, List.set_cons_succ]) | ((apply plan_pure rfl; (intro w1; go_simp; try go_bits); with_reducible rfl); try simp only [Act.put, List.setIfInBounds_toArray, List.set_cons_zero, List.set_cons_succ]) | ((refine' plan_load 0 rfl (by kernel_rfl) rfl ?_ ?_; rotate_left; (intro w1 hw1; go_simp; with_reducible rfl)); try simp only [Act.put, List.setIfInBounds_toArray, List.set_cons_zero, List.set_cons_succ]))
  obtain ⟨g, cap, w8, hcv, hx8⟩ := convBytes hx7 s
  rw [hz] at hcv
  have hav := fun w => arrayAt16 ⟨g, 0, none⟩ cap w
  have HF := Lib.hid hx8
  clear hx8
  refine plan_loud rfl (fun K hK => ?_); go_simp
  refine hK _ _ ⟨HF.out.p2.at, trivial⟩ ?_
  clear hK K
  try simp only [Act.put, List.setIfInBounds_toArray, List.set_cons_zero, List.set_cons_succ]
  iterate 1 (first | (apply plan_skip rfl; try simp only [Act.put, List.setIfInBounds_toArray, List.set_cons_zero, List.set_cons_succ]) | ((apply plan_pure rfl; (intro w1; go_simp; try go_bits); with_reducible rfl); try simp only [Act.put, List.setIfInBounds_toArray, List.set_cons_zero, List.set_cons_succ]) | ((refine' plan_load 0 rfl (by kernel_rfl) rfl ?_ ?_; rotate_left; (intro w1 hw1; go_simp; with_reducible rfl)); try simp only [Act.put, List.setIfInBounds_toArray, List.set_cons_zero, List.set_cons_succ]))
  refine plan_loud rfl (fun K hK => ?_)
  refine wp_load_mid 98 _ rfl g 0 rfl (cellsB (lst s)) _ (bytesAt_range HF.out) Tryz.underlying98 rfl (by rw [cellsB_len, lst_len, hz]; exact info16) ?_
  rw [HC2.out]
  refine hK _ _ ⟨HF.out.p2.at, trivial⟩ ?_
  clear hK K
  try simp only [Act.put, List.setIfInBounds_toArray, List.set_cons_zero, List.set_cons_succ]
  refine plan_pure (v := .bool B) rfl (fun w => ?_) ?_
  · exact op_neq rfl rfl rfl HNE.out w
  try simp only [Act.put, List.setIfInBounds_toArray, List.set_cons_zero, List.set_cons_succ]
  iterate 1 (first | (apply plan_skip rfl; try simp only [Act.put, List.setIfInBounds_toArray, List.set_cons_zero, List.set_cons_succ]) | ((apply plan_pure rfl; (intro w1; go_simp; try go_bits); with_reducible rfl); try simp only [Act.put, List.setIfInBounds_toArray, List.set_cons_zero, List.set_cons_succ]) | ((refine' plan_load 0 rfl (by kernel_rfl) rfl ?_ ?_; rotate_left; (intro w1 hw1; go_simp; with_reducible rfl)); try simp only [Act.put, List.setIfInBounds_toArray, List.set_cons_zero, List.set_cons_succ]))
  refine plan_nil ?_
  have HQ := Lib.hid HF.out.tail.p3
  obtain ⟨eg, hg⟩ := hk _ HQ.out.tail.tail.tail.tail
  have g0 := cell_blk hg 0
  have g1 := cell_blk hg 1
  have g2 := cell_blk hg 2
  have d0 := frozen_blk HQ.out.at 0
  have d1 := frozen_blk HQ.out.at 1
  have d2 := frozen_blk HQ.out.at 2
  have e0 := cell_blk HQ.out.at 0
  have e1 := cell_blk HQ.out.at 1
  have e2 := cell_blk HQ.out.at 2
  clear hg hav hcv
  cases B
  · have hp5 := HQ.out.p3
    have f0 := cell_blk hp5.at 0
    have f1 := cell_blk hp5.at 1
    have f2 := cell_blk hp5.at 2
    clear hp5
    go_wp2
    rw [pR_yes (HOK.out.2 (by trivial))]
    have z := ((HQ.out.setCell 0 (.int .i64 (byt s 0))).setCell 1 (.int .i64 (fld s 4 4))).setCell 2 (.int .i64 (pB s))
    exact post_row2 rfl q 24 _ (0, 0) _ rfl z.at Tryz.underlying24 rfl (isz3 0 0 0) rfl ⟨rfl, z.tail.tail.tail.tail⟩
  · go_wp2
    rw [pR_no (fun h => by have := HOK.out.1 h; simp at this)]
    have z := ((HQ.out.setCell 0 (.int .i64 0)).setCell 1 (.int .i64 0)).setCell 2 (.int .i64 0)
    exact post_row2 rfl q 24 _ (0, 0) _ rfl z.at Tryz.underlying24 rfl (isz3 0 0 0) rfl ⟨rfl, z.tail.tail.tail.tail⟩
theorem parse_ok {E W : World} {L : List HP} (x : Sat E W L) (hk : Knows E L) (s : ByteArray) (hz : s.size = 16) :
    Calls Tryz.prog 18 #[.string s] W fun e w' => e = .returned (pR s) ∧ Sat E w' L := by
  by_cases h1 : byt s 0 = 1 ∨ byt s 0 = 2
  · by_cases hp : pE s = 0
    · exact parse_fit x hk s hz h1 hp
    · exact parse_top x hk s hz h1 hp
  · rw [pR_no fun h => h1 h.1]
    exact parse_bad x hk s hz (by omega) (by omega)
end Go.Proofs.YtodjdcdbmbmbmaaGreatDoor
