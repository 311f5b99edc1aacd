/-
  posthouse/head: Get, walked to its end: a head's sector and a text's bytes, of which either may come first.
-/
import Derived.Stop.BytesEq
import Derived.Test.YtmkpglabiikdeaaGreatHeadT
namespace PH
open Go
theorem branch_loud {P : Program} {md : Region.Mode} {l : List Oper} {Q : Exit → Act → World → Prop} {p : World → Prop} {i : Nat} {plan : List (Nat × Bool)} {a : Act} {w : World} {o : Oper} (ho : l[i]? = some o) (hw : Region.wanted o (yielded l.toArray a.tmps) = true)
    (h : ∀ K : Act → World → Prop, (∀ a' w' (p' : World → Prop), p' w' → (∀ w, p' w → p w) → wpPlanL P md l.toArray Q [(l.length, p')] (Q .normal) (planOps l plan) a' w' → K a' w') → o.wp P a w K Q) : wpBranch P md l Q p i plan a w :=
  ⟨o, ho, hw, h _ fun _ _ p' h1 h2 h3 => ⟨p', h1, h2, h3⟩⟩
end PH
namespace Go.Proofs.YtmkpglabiikdeaaGreat
open Go.RowKit PH

theorem cellsB_bytes (T : ByteArray) : cellsB (lst T) = T.data.toList.map Extern.Stop.cell := by
  unfold cellsB lst
  rw [List.map_map]
  rfl
theorem neq136 {S T : ByteArray} (hS : S.size = 128) (hT : T.size = 128) (w : World) : (binOp .neq 109 (.agg (cellsB (lst S)).toArray) (.agg (cellsB (lst T)).toArray)).run Tryz.prog w = .ok (.bool (decide (S ≠ T))) w := by
  rw [run_neq_struct, cellsB_bytes, cellsB_bytes, run_equalIn_bytes w 9998 109 5 128 Tryz.underlying109 Tryz.underlying5 (fun w => by go_simp) _ _ (by rw [Array.length_toList]; exact hS) (by rw [Array.length_toList]; exact hT)]
  show Result.ok _ _ = _
  congr 2
  by_cases h : S = T
  · subst h; simp
  · have : ¬ S.data = T.data := fun e => h (ByteArray.ext e)
    simp [h, this]
theorem op_neq {a : Act} {o : Oper} {x y : Operand} {C C2 : Array Value} {B : Bool} (ho : o.op = .binOp .neq 109 x y 109) (hx : a.eval x = .agg C) (hy : a.eval y = .agg C2)
    (hne : ∀ w, (binOp .neq 109 (.agg C) (.agg C2)).run Tryz.prog w = .ok (.bool B) w) (w : World) : (execOp a.eval o).run Tryz.prog w = .ok (.value (.bool B)) w := by
  have hm : Tryz.prog.eqGuardType Tryz.prog.depth 109 = false := by kernel_rfl
  unfold execOp
  simp only [ho, hx, hy, Sem.run_bind, run_eqGuard_agg w .neq 109 x y C C2 hm, Result.andThen_ok, hne, Sem.run_pure]
theorem one7 (a b c d e f g : Int) : (#[.int .i64 a, .int .i64 b, .int .i64 c, .int .i64 d, .int .i64 e, .int .i64 f, .int .i64 g] : Array Value).all (·.oneCell') = true := hd_one ⟨a, b, c, d, e, f, g⟩
theorem load7 {E w : World} {L : List HP} {q : Nat} {a b c d e f g : Int} (x : Sat E w (pt q (.cells #[.int .i64 a, .int .i64 b, .int .i64 c, .int .i64 d, .int .i64 e, .int .i64 f, .int .i64 g] 33) :: L)) :
    (loadVar 33 ⟨q, 0, none⟩).run Tryz.prog w = .ok (.agg #[.int .i64 a, .int .i64 b, .int .i64 c, .int .i64 d, .int .i64 e, .int .i64 f, .int .i64 g]) w := load_hd (h := ⟨a, b, c, d, e, f, g⟩) x
theorem hdOf_cells (s : ByteArray) : (hdOf s).cells = #[.int .i64 (fld s 4 8), .int .i64 (fld s 12 4), .int .i64 (fld s 16 4), .int .i64 (fld s 20 4), .int .i64 (fld s 24 4), .int .i64 (fld s 28 8), .int .i64 (fld s 36 4)] := rfl
set_option maxRecDepth 100000 in
set_option maxHeartbeats 3200000 in
theorem get_fork {E W : World} {L : List HP} {B : Bool} (x : Sat E W L) (s : ByteArray) (hz : s.size = 128) (hg : fld s 4 8 ≤ 9223372036854775807) (hn : fld s 28 8 ≤ 9223372036854775807) (hc : okHd (hdOf s) = true) (hb : decide (headB (hdOf s) ≠ s) = B) : Calls Tryz.prog 35 #[.string s] W fun e w' => e = .returned (.tuple #[.agg (if B then noHd else hdOf s).cells, .int .i64 (if B then 14 else 0)]) ∧ Sat E w' L := by
  have hx1 := zx x
  obtain ⟨q, hq⟩ : ∃ q, W.heap.size = q := ⟨_, rfl⟩
  rw [hq] at hx1
  have HX1 := Lib.hid hx1
  clear hx1 x
  have HG := Lib.hid hg
  clear hg
  have HN := Lib.hid hn
  clear hn
  have HC := Lib.hid hc
  clear hc
  have HB := Lib.hid hb
  clear hb
  have hs : s.size ≤ 9223372036854775807 := by omega
  have hse : ByteArray.empty.size ≤ 9223372036854775807 := by decide
  have hl0 := left_all s
  go_enter Tryz.func35, Tryz.ntmps35
  go_wp2_with (first
    | (go_at_call 52; with_reducible refine (rRead_ok HX1.out s).mono ?_; rintro e2 w2 ⟨b, rfl, hx2⟩; rw [← hl0] at hx2; have HX2 := Lib.hid hx2; clear hx2)
    | (go_at_call 53; with_reducible refine (rU32_to (p := 0) (q := 4) rfl HX2.out (by omega) hs).mono ?_; rintro e3 w3 ⟨rfl, hx3⟩; have HX3 := Lib.hid hx3; clear hx3)
    | (go_at_call 54; with_reducible refine (rU64_to (p := 4) (q := 12) rfl HX3.out (by omega) hs HG.out).mono ?_; rintro e4 w4 ⟨rfl, hx4⟩; have HX4 := Lib.hid hx4; clear hx4)
    | (go_at_call 53; with_reducible refine (rU32_to (p := 12) (q := 16) rfl HX4.out (by omega) hs).mono ?_; rintro e5 w5 ⟨rfl, hx5⟩; have HX5 := Lib.hid hx5; clear hx5)
    | (go_at_call 53; with_reducible refine (rU32_to (p := 16) (q := 20) rfl HX5.out (by omega) hs).mono ?_; rintro e6 w6 ⟨rfl, hx6⟩; have HX6 := Lib.hid hx6; clear hx6)
    | (go_at_call 53; with_reducible refine (rU32_to (p := 20) (q := 24) rfl HX6.out (by omega) hs).mono ?_; rintro e7 w7 ⟨rfl, hx7⟩; have HX7 := Lib.hid hx7; clear hx7)
    | (go_at_call 53; with_reducible refine (rU32_to (p := 24) (q := 28) rfl HX7.out (by omega) hs).mono ?_; rintro e8 w8 ⟨rfl, hx8⟩; have HX8 := Lib.hid hx8; clear hx8)
    | (go_at_call 54; with_reducible refine (rU64_to (p := 28) (q := 36) rfl HX8.out (by omega) hs HN.out).mono ?_; rintro e9 w9 ⟨rfl, hx9⟩; have HX9 := Lib.hid hx9; clear hx9)
    | (go_at_call 53; with_reducible refine (rU32_to (p := 36) (q := 40) rfl HX9.out (by omega) hs).mono ?_; rintro e10 w10 ⟨rfl, hx10⟩; have HX10 := Lib.hid hx10; clear hx10))
  have HA := Lib.hid ((HX10.out.alloc (.cells #[.int .i64 (fld s 4 8), .int .i64 (fld s 12 4), .int .i64 (fld s 16 4), .int .i64 (fld s 20 4), .int .i64 (fld s 24 4), .int .i64 (fld s 28 8), .int .i64 (fld s 36 4)] 33)).drew)
  obtain ⟨qh, hqh⟩ : ∃ qh, w10.heap.size = qh := ⟨_, rfl⟩
  rw [hqh] at HA
  have hnat := hdOf_nat HG.out HN.out
  obtain ⟨C, hC⟩ : ∃ C, (cellsB (lst (headB (hdOf s)))).toArray = C := ⟨_, rfl⟩
  obtain ⟨C2, hC2⟩ : ∃ C, (cellsB (lst s)).toArray = C := ⟨_, rfl⟩
  have hne := fun w => neq136 (headB_size (hdOf s)) hz w
  rw [hC, hC2, HB.out] at hne
  have HNE := Lib.hid hne
  have HCC := Lib.hid hC
  have HC2 := Lib.hid hC2
  have HNAT := Lib.hid hnat
  clear hnat hC hC2 hne
  refine wp_region_fork [(0, true), (1, false), (2, true), (3, true), (4, true), (5, false), (6, true), (7, true), (8, true), (9, true), (11, true)] 10 12 [(12, false), (13, true), (14, false), (15, true), (16, true)] [(13, true), (14, true), (10, false), (15, true), (16, true)]
    (fun w1 => w1.cell? ⟨qh, 0, none⟩ = some (.int .i64 (fld s 4 8)) ∧ w1.cell? ⟨qh, 1, none⟩ = some (.int .i64 (fld s 12 4)) ∧ w1.cell? ⟨qh, 2, none⟩ = some (.int .i64 (fld s 16 4)) ∧ w1.cell? ⟨qh, 3, none⟩ = some (.int .i64 (fld s 20 4)) ∧ w1.cell? ⟨qh, 4, none⟩ = some (.int .i64 (fld s 24 4)) ∧ w1.cell? ⟨qh, 5, none⟩ = some (.int .i64 (fld s 28 8)) ∧ w1.cell? ⟨qh, 6, none⟩ = some (.int .i64 (fld s 36 4))) (by kernel_rfl) (by kernel_rfl) (by intro c a d v w h; cases d <;> exact h) ?_ ?_
  · exact hd7 HA.out
  simp only [planOps, List.getElem?_cons_zero, List.getElem?_cons_succ]
  iterate 1 (first | ((apply plan_pure rfl; (intro w1; go_simp; try go_bits); with_reducible rfl); try simp only [Act.put, List.setIfInBounds_toArray, List.set_cons_zero, List.set_cons_succ]) | ((refine' plan_load 0 rfl (by kernel_rfl) rfl ?_ ?_; rotate_left; (intro w1 hw1; go_simp; with_reducible rfl)); try simp only [Act.put, List.setIfInBounds_toArray, List.set_cons_zero, List.set_cons_succ]))
  refine plan_loud rfl (fun K hK => ?_); go_simp
  refine (rErr_ok HA.out.p1).mono ?_
  rintro e11 w11 ⟨rfl, rfl⟩
  dsimp only
  refine hK _ _ ⟨hd7 HA.out, trivial⟩ ?_
  clear hK K
  try simp only [Act.put, List.setIfInBounds_toArray, List.set_cons_zero, List.set_cons_succ]
  iterate 3 (first | ((apply plan_pure rfl; (intro w1; go_simp; try go_bits); with_reducible rfl); try simp only [Act.put, List.setIfInBounds_toArray, List.set_cons_zero, List.set_cons_succ]) | ((refine' plan_load 0 rfl (by kernel_rfl) rfl ?_ ?_; rotate_left; (intro w1 hw1; go_simp; with_reducible rfl)); try simp only [Act.put, List.setIfInBounds_toArray, List.set_cons_zero, List.set_cons_succ]))
  have hck := headCheck_ok HA.out (hdOf s)
  rw [HC.out] at hck
  refine plan_loud rfl (fun K hK => ?_); go_simp
  refine hck.mono ?_
  rintro e12 w12 ⟨rfl, hx12⟩
  dsimp only
  have HB1 := Lib.hid hx12
  clear hx12
  refine hK _ _ ⟨hd7 HB1.out, trivial⟩ ?_
  clear hK K
  try simp only [Act.put, List.setIfInBounds_toArray, List.set_cons_zero, List.set_cons_succ]
  iterate 5 (first | ((apply plan_pure rfl; (intro w1; go_simp; try go_bits); with_reducible rfl); try simp only [Act.put, List.setIfInBounds_toArray, List.set_cons_zero, List.set_cons_succ]) | ((refine' plan_load 0 rfl (by kernel_rfl) rfl ?_ ?_; rotate_left; (intro w1 hw1; go_simp; with_reducible rfl)); try simp only [Act.put, List.setIfInBounds_toArray, List.set_cons_zero, List.set_cons_succ]))
  refine plan_nil ?_
  refine ⟨?_, ?_⟩
  · have hl := laid_ok HB1.out (hdOf s) HNAT.out
    rw [HCC.out] at hl
    refine branch_loud rfl rfl (fun K hK => ?_); go_simp
    refine hl.mono ?_
    rintro e13 w13 ⟨rfl, hx13⟩
    dsimp only
    refine hK _ _ (fun w1 => w1.cell? ⟨qh, 0, none⟩ = some (.int .i64 (fld s 4 8)) ∧ w1.cell? ⟨qh, 1, none⟩ = some (.int .i64 (fld s 12 4)) ∧ w1.cell? ⟨qh, 2, none⟩ = some (.int .i64 (fld s 16 4)) ∧ w1.cell? ⟨qh, 3, none⟩ = some (.int .i64 (fld s 20 4)) ∧ w1.cell? ⟨qh, 4, none⟩ = some (.int .i64 (fld s 24 4)) ∧ w1.cell? ⟨qh, 5, none⟩ = some (.int .i64 (fld s 28 8)) ∧ w1.cell? ⟨qh, 6, none⟩ = some (.int .i64 (fld s 36 4))) (hd7 hx13) (fun _ h => h) ?_
    clear hK K hl
    simp only [planOps, List.getElem?_cons_zero, List.getElem?_cons_succ]
    try simp only [Act.put, List.setIfInBounds_toArray, List.set_cons_zero, List.set_cons_succ]
    obtain ⟨g, cap, w14, hcv, hx14⟩ := convBytes hx13 s
    rw [hz] at hcv
    have hav := fun w => arrayAt_ok ⟨g, 0, none⟩ cap w
    have HF := Lib.hid hx14
    clear hx14
    refine plan_loud rfl (fun K hK => ?_); go_simp
    refine hK _ _ ⟨hd7 HF.out.p1, trivial⟩ ?_
    clear hK K
    try simp only [Act.put, List.setIfInBounds_toArray, List.set_cons_zero, List.set_cons_succ]
    iterate 1 (first | ((apply plan_pure rfl; (intro w1; go_simp; try go_bits); with_reducible rfl); try simp only [Act.put, List.setIfInBounds_toArray, List.set_cons_zero, List.set_cons_succ]) | ((refine' plan_load 0 rfl (by kernel_rfl) rfl ?_ ?_; rotate_left; (intro w1 hw1; go_simp; with_reducible rfl)); try simp only [Act.put, List.setIfInBounds_toArray, List.set_cons_zero, List.set_cons_succ]))
    refine plan_loud rfl (fun K hK => ?_)
    refine wp_load_mid 109 _ rfl g 0 rfl (cellsB (lst s)) _ (bytesAt_range HF.out) Tryz.underlying109 rfl (by rw [cellsB_len, lst_len, hz]; exact info136) ?_
    rw [HC2.out]
    refine hK _ _ ⟨hd7 HF.out.p1, trivial⟩ ?_
    clear hK K
    try simp only [Act.put, List.setIfInBounds_toArray, List.set_cons_zero, List.set_cons_succ]
    refine plan_pure (v := .bool B) rfl (fun w => ?_) ?_
    · exact op_neq rfl rfl rfl HNE.out w
    try simp only [Act.put, List.setIfInBounds_toArray, List.set_cons_zero, List.set_cons_succ]
    iterate 1 (first | ((apply plan_pure rfl; (intro w1; go_simp; try go_bits); with_reducible rfl); try simp only [Act.put, List.setIfInBounds_toArray, List.set_cons_zero, List.set_cons_succ]) | ((refine' plan_load 0 rfl (by kernel_rfl) rfl ?_ ?_; rotate_left; (intro w1 hw1; go_simp; with_reducible rfl)); try simp only [Act.put, List.setIfInBounds_toArray, List.set_cons_zero, List.set_cons_succ]))
    refine plan_nil ?_
    have HQ := Lib.hid HF.out.p3
    obtain ⟨d0, d1, d2, d3, d4, d5, d6⟩ := hd7 HF.out.p1
    clear HA HB1 HNE HB HCC HC2 HNAT HX1 HX2 HX3 HX4 HX5 HX6 HX7 HX8 HX9 HX10 hav hcv hck HF HG HN HC
    have hcl := hdOf_cells s
    generalize ((fld s 4 8 : Nat) : Int) = n0 at *
    generalize ((fld s 12 4 : Nat) : Int) = n1 at *
    generalize ((fld s 16 4 : Nat) : Int) = n2 at *
    generalize ((fld s 20 4 : Nat) : Int) = n3 at *
    generalize ((fld s 24 4 : Nat) : Int) = n4 at *
    generalize ((fld s 28 8 : Nat) : Int) = n5 at *
    generalize ((fld s 36 4 : Nat) : Int) = n6 at *
    cases B
    · go_wp2_with (refine wpList_store_mid rfl 33 _ _ rfl q 0 #[.int .i64 n0, .int .i64 n1, .int .i64 n2, .int .i64 n3, .int .i64 n4, .int .i64 n5, .int .i64 n6] rfl rfl (pt_there HQ.out rfl) info85 (one7 _ _ _ _ _ _ _) ?_)
      have hfin := setCells_all (C := #[.int .i64 n0, .int .i64 n1, .int .i64 n2, .int .i64 n3, .int .i64 n4, .int .i64 n5, .int .i64 n6]) HQ.out rfl
      have hlf := load7 hfin
      refine bodyPost_ret (v := .tuple #[.agg #[.int .i64 n0, .int .i64 n1, .int .i64 n2, .int .i64 n3, .int .i64 n4, .int .i64 n5, .int .i64 n6], .int .i64 0]) ?_ rfl ⟨by simp [hcl], hfin.tail.tail.tail.tail⟩
      rw [results_cell_tmp rfl]
      simp only [asAddr, Array.getD_eq_getD_getElem?, List.getElem?_toArray, List.getElem?_cons_succ, List.getElem?_cons_zero, Option.getD_some, Sem.run_pure, Result.andThen_ok, hlf]
    · go_wp2_with (refine wpList_store_mid rfl 33 _ _ rfl q 0 noHd.cells rfl rfl (pt_there HQ.out rfl) info85 (hd_one _) ?_)
      refine bodyPost_ret (v := .tuple #[.agg noHd.cells, .int .i64 14]) ?_ rfl ⟨by simp, (setCells_all HQ.out rfl).tail.tail.tail.tail⟩
      rw [results_cell_tmp rfl]
      simp [asAddr, load_hd (setCells_all HQ.out rfl), Result.andThen]
  · obtain ⟨g, cap, w14, hcv, hx14⟩ := convBytes HB1.out s
    rw [hz] at hcv
    have hav := fun w => arrayAt_ok ⟨g, 0, none⟩ cap w
    have HF0 := Lib.hid hx14
    clear hx14
    refine branch_loud rfl rfl (fun K hK => ?_); go_simp
    refine hK _ _ (fun w1 => (w1.cell? ⟨qh, 0, none⟩ = some (.int .i64 (fld s 4 8)) ∧ w1.cell? ⟨qh, 1, none⟩ = some (.int .i64 (fld s 12 4)) ∧ w1.cell? ⟨qh, 2, none⟩ = some (.int .i64 (fld s 16 4)) ∧ w1.cell? ⟨qh, 3, none⟩ = some (.int .i64 (fld s 20 4)) ∧ w1.cell? ⟨qh, 4, none⟩ = some (.int .i64 (fld s 24 4)) ∧ w1.cell? ⟨qh, 5, none⟩ = some (.int .i64 (fld s 28 8)) ∧ w1.cell? ⟨qh, 6, none⟩ = some (.int .i64 (fld s 36 4))) ∧ w1.rangeAt g 0 (cellsB (lst s))) ⟨hd7 HF0.out.p1, bytesAt_range HF0.out⟩ (fun _ h => h.1) ?_
    clear hK K
    simp only [planOps, List.getElem?_cons_zero, List.getElem?_cons_succ]
    try simp only [Act.put, List.setIfInBounds_toArray, List.set_cons_zero, List.set_cons_succ]
    iterate 1 (first | ((apply plan_pure rfl; (intro w1; go_simp; try go_bits); with_reducible rfl); try simp only [Act.put, List.setIfInBounds_toArray, List.set_cons_zero, List.set_cons_succ]) | ((refine' plan_load 0 rfl (by kernel_rfl) rfl ?_ ?_; rotate_left; (intro w1 hw1; go_simp; with_reducible rfl)); try simp only [Act.put, List.setIfInBounds_toArray, List.set_cons_zero, List.set_cons_succ]))
    refine ⟨_, yieldsIf_load_mid rfl 109 _ rfl g 0 rfl (cellsB (lst s)) _ (fun w1 hw1 => (hw1 _ (List.mem_singleton.2 rfl) rfl).2) Tryz.underlying109 rfl (by rw [cellsB_len, lst_len, hz]; exact info136), ?_⟩
    rw [HC2.out]
    try simp only [Act.put, List.setIfInBounds_toArray, List.set_cons_zero, List.set_cons_succ]
    have hl := laid_ok HF0.out (hdOf s) HNAT.out
    rw [HCC.out] at hl
    refine plan_loud rfl (fun K hK => ?_); go_simp
    refine hl.mono ?_
    rintro e13 w13 ⟨rfl, hx13⟩
    dsimp only
    refine hK _ _ ⟨⟨hd7 hx13.p1, bytesAt_range hx13⟩, trivial⟩ ?_
    clear hK K hl
    have HF := Lib.hid hx13
    clear hx13
    try simp only [Act.put, List.setIfInBounds_toArray, List.set_cons_zero, List.set_cons_succ]
    refine plan_pure (v := .bool B) rfl (fun w => ?_) ?_
    · exact op_neq rfl rfl rfl HNE.out w
    try simp only [Act.put, List.setIfInBounds_toArray, List.set_cons_zero, List.set_cons_succ]
    iterate 1 (first | ((apply plan_pure rfl; (intro w1; go_simp; try go_bits); with_reducible rfl); try simp only [Act.put, List.setIfInBounds_toArray, List.set_cons_zero, List.set_cons_succ]) | ((refine' plan_load 0 rfl (by kernel_rfl) rfl ?_ ?_; rotate_left; (intro w1 hw1; go_simp; with_reducible rfl)); try simp only [Act.put, List.setIfInBounds_toArray, List.set_cons_zero, List.set_cons_succ]))
    refine plan_nil ?_
    have HQ := Lib.hid HF.out.p3
    obtain ⟨d0, d1, d2, d3, d4, d5, d6⟩ := hd7 HF.out.p1
    clear HA HB1 HNE HB HCC HC2 HNAT HX1 HX2 HX3 HX4 HX5 HX6 HX7 HX8 HX9 HX10 hav hcv hck HF HG HN HC
    have hcl := hdOf_cells s
    generalize ((fld s 4 8 : Nat) : Int) = n0 at *
    generalize ((fld s 12 4 : Nat) : Int) = n1 at *
    generalize ((fld s 16 4 : Nat) : Int) = n2 at *
    generalize ((fld s 20 4 : Nat) : Int) = n3 at *
    generalize ((fld s 24 4 : Nat) : Int) = n4 at *
    generalize ((fld s 28 8 : Nat) : Int) = n5 at *
    generalize ((fld s 36 4 : Nat) : Int) = n6 at *
    cases B
    · go_wp2_with (refine wpList_store_mid rfl 33 _ _ rfl q 0 #[.int .i64 n0, .int .i64 n1, .int .i64 n2, .int .i64 n3, .int .i64 n4, .int .i64 n5, .int .i64 n6] rfl rfl (pt_there HQ.out rfl) info85 (one7 _ _ _ _ _ _ _) ?_)
      have hfin := setCells_all (C := #[.int .i64 n0, .int .i64 n1, .int .i64 n2, .int .i64 n3, .int .i64 n4, .int .i64 n5, .int .i64 n6]) HQ.out rfl
      have hlf := load7 hfin
      refine bodyPost_ret (v := .tuple #[.agg #[.int .i64 n0, .int .i64 n1, .int .i64 n2, .int .i64 n3, .int .i64 n4, .int .i64 n5, .int .i64 n6], .int .i64 0]) ?_ rfl ⟨by simp [hcl], hfin.tail.tail.tail.tail⟩
      rw [results_cell_tmp rfl]
      simp only [asAddr, Array.getD_eq_getD_getElem?, List.getElem?_toArray, List.getElem?_cons_succ, List.getElem?_cons_zero, Option.getD_some, Sem.run_pure, Result.andThen_ok, hlf]
    · go_wp2_with (refine wpList_store_mid rfl 33 _ _ rfl q 0 noHd.cells rfl rfl (pt_there HQ.out rfl) info85 (hd_one _) ?_)
      refine bodyPost_ret (v := .tuple #[.agg noHd.cells, .int .i64 14]) ?_ rfl ⟨by simp, (setCells_all HQ.out rfl).tail.tail.tail.tail⟩
      rw [results_cell_tmp rfl]
      simp [asAddr, load_hd (setCells_all HQ.out rfl), Result.andThen]

theorem headGet_ok {E W : World} {L : List HP} (x : Sat E W L) (s : ByteArray) (hs : s.size ≤ 9223372036854775807) : Calls Tryz.prog 35 #[.string s] W fun e w' => e = .returned (.tuple #[.agg (getV s).cells, .int .i64 (getE s)]) ∧ Sat E w' L := by
  have no : getP s = none → getV s = noHd ∧ getE s = 14 := fun h => by unfold getV getE; rw [h]; exact ⟨rfl, rfl⟩
  by_cases hz : s.size = 128
  · by_cases hg : fld s 4 8 ≤ 9223372036854775807
    · by_cases hn : fld s 28 8 ≤ 9223372036854775807
      · cases hc : okHd (hdOf s) with
        | false =>
          obtain ⟨e1, e2⟩ := no (getP_none (fun h => by rw [h.2.2.2.1] at hc; cases hc))
          rw [e1, e2]
          exact get_form x s hz hg hn hc
        | true =>
          by_cases hb : headB (hdOf s) = s
          · have hp : getP s = some (hdOf s) := by unfold getP; rw [if_pos ⟨hz, hg, hn, hc, hb⟩]
            have e1 : getV s = hdOf s := by unfold getV; rw [hp]
            have e2 : getE s = 0 := by unfold getE; rw [hp]
            rw [e1, e2]
            exact get_fork (B := false) x s hz hg hn hc (by simp [hb])
          · obtain ⟨e1, e2⟩ := no (getP_none (fun h => hb h.2.2.2.2))
            rw [e1, e2]
            exact get_fork (B := true) x s hz hg hn hc (by simp [hb])
      · obtain ⟨e1, e2⟩ := no (getP_none (fun h => hn h.2.2.1))
        rw [e1, e2]
        exact get_top2 x s hz hg hn
    · obtain ⟨e1, e2⟩ := no (getP_none (fun h => hg h.2.1))
      rw [e1, e2]
      exact get_top1 x s hz hg
  · obtain ⟨e1, e2⟩ := no (getP_none (fun h => hz h.1))
    rw [e1, e2]
    exact get_size x s hs hz
end Go.Proofs.YtmkpglabiikdeaaGreat

