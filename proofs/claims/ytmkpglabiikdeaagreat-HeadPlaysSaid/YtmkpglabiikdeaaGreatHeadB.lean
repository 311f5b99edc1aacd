/-
  The document's bytes of a head, walked.
-/
import Derived.Test.YtmkpglabiikdeaaGreatHead
import Derived.Test.YtmkpglabiikdeaaGreatRef
namespace Go.Proofs.YtmkpglabiikdeaaGreat
open Go.RowKit PH

/-- A head's bytes ahead of the sum. -/
def headP (h : Hd) : List Nat := [80, 72, 68, 49] ++ numL h.gen.toNat 8 ++ numL h.epoch.toNat 4 ++ numL h.since.toNat 4 ++ numL h.area.toNat 4 ++ numL h.size.toNat 4 ++ numL h.next.toNat 8 ++ numL h.pos.toNat 4
/-- With the sum. -/
def headS (h : Hd) : List Nat := headP h ++ numL (sumOf (bs (headP h))) 4
/-- A head's sector. -/
def headB (h : Hd) : ByteArray := pad (bs (headS h))
theorem headP_len (h : Hd) : (headP h).length = 40 := by simp [headP, numL_len]
theorem headS_len (h : Hd) : (headS h).length = 44 := by simp [headS, headP_len, numL_len]
/-- A head whose numbers may be written. -/
structure NatHd (h : Hd) (g e s a z n p : Nat) : Prop where
  g1 : h.gen = g
  e1 : h.epoch = e
  s1 : h.since = s
  a1 : h.area = a
  z1 : h.size = z
  n1 : h.next = n
  p1 : h.pos = p
  g2 : g ≤ 9223372036854775807
  e2 : e < 4294967296
  s2 : s < 4294967296
  a2 : a < 4294967296
  z2 : z < 4294967296
  n2 : n ≤ 9223372036854775807
  p2 : p < 4294967296
theorem okHd_nat {h : Hd} (k : okHd h = true) (hg : h.gen ≤ 9223372036854775807) (hn : h.next ≤ 9223372036854775807) : NatHd h h.gen.toNat h.epoch.toNat h.since.toNat h.area.toNat h.size.toNat h.next.toNat h.pos.toNat := by
  unfold okHd at k
  have k := of_decide_eq_true k
  obtain ⟨k1, k2, k3, k4, k5, k6, k7, k8, k9, k10, k11, k12⟩ := k
  exact ⟨by omega, by omega, by omega, by omega, by omega, by omega, by omega, by omega, by omega, by omega, by omega, by omega, by omega, by omega⟩

theorem hd7 {E w : World} {L : List HP} {q : Nat} {v0 v1 v2 v3 v4 v5 v6 : Value} {ty : TypeId} (x : Sat E w (pt q (.cells #[v0, v1, v2, v3, v4, v5, v6] ty) :: L)) : w.cell? ⟨q, 0, none⟩ = some v0 ∧ w.cell? ⟨q, 1, none⟩ = some v1 ∧ w.cell? ⟨q, 2, none⟩ = some v2 ∧ w.cell? ⟨q, 3, none⟩ = some v3 ∧ w.cell? ⟨q, 4, none⟩ = some v4 ∧ w.cell? ⟨q, 5, none⟩ = some v5 ∧ w.cell? ⟨q, 6, none⟩ = some v6 :=
  ⟨cell_blk x.at 0, cell_blk x.at 1, cell_blk x.at 2, cell_blk x.at 3, cell_blk x.at 4, cell_blk x.at 5, cell_blk x.at 6⟩

set_option maxRecDepth 100000 in
set_option maxHeartbeats 1600000 in
theorem refBytes_ok {E W : World} {L : List HP} (x : Sat E W L) (h : Hd) {g e s a z n p : Nat} (hn : NatHd h g e s a z n p) : Calls Tryz.prog 41 #[.agg h.cells] W fun e w' => e = .returned (.string (headB h)) ∧ Sat E w' L := by
  have hB : headB h = pad (bs (headS h)) := rfl
  have hP : headP h = [80, 72, 68, 49] ++ numL g 8 ++ numL e 4 ++ numL s 4 ++ numL a 4 ++ numL z 4 ++ numL n 8 ++ numL p 4 := by
    unfold headP; rw [hn.g1, hn.e1, hn.s1, hn.a1, hn.z1, hn.n1, hn.p1]; rfl
  have hS : headS h = headP h ++ numL (sumOf (bs (headP h))) 4 := rfl
  have hx := x.alloc (.cells h.cells 33)
  have hc : h.cells = #[.int .i64 g, .int .i64 e, .int .i64 s, .int .i64 a, .int .i64 z, .int .i64 n, .int .i64 p] := by
    unfold Hd.cells; rw [hn.g1, hn.e1, hn.s1, hn.a1, hn.z1, hn.n1, hn.p1]
  rw [hc] at hx ⊢
  have g2 := hn.g2
  have n2 := hn.n2
  have HN := Lib.hid hn
  have HB := Lib.hid hB
  have HP := Lib.hid hP
  have HS := Lib.hid hS
  obtain ⟨q, hq⟩ : ∃ q, W.heap.size = q := ⟨_, rfl⟩
  rw [hq] at hx
  have HX := Lib.hid hx
  clear x hx hc hn hB hP hS
  obtain ⟨t0, ht0⟩ : ∃ t, bs (numL g 8) = t := ⟨_, rfl⟩
  have hz0 : t0.size = 8 := by rw [← ht0, bs_size, numL_len]
  have T0 := Lib.hid ht0
  clear ht0
  obtain ⟨t1, ht1⟩ : ∃ t, bs (numL e 4) = t := ⟨_, rfl⟩
  have hz1 : t1.size = 4 := by rw [← ht1, bs_size, numL_len]
  have T1 := Lib.hid ht1
  clear ht1
  obtain ⟨t2, ht2⟩ : ∃ t, bs (numL s 4) = t := ⟨_, rfl⟩
  have hz2 : t2.size = 4 := by rw [← ht2, bs_size, numL_len]
  have T2 := Lib.hid ht2
  clear ht2
  obtain ⟨t3, ht3⟩ : ∃ t, bs (numL a 4) = t := ⟨_, rfl⟩
  have hz3 : t3.size = 4 := by rw [← ht3, bs_size, numL_len]
  have T3 := Lib.hid ht3
  clear ht3
  obtain ⟨t4, ht4⟩ : ∃ t, bs (numL z 4) = t := ⟨_, rfl⟩
  have hz4 : t4.size = 4 := by rw [← ht4, bs_size, numL_len]
  have T4 := Lib.hid ht4
  clear ht4
  obtain ⟨t5, ht5⟩ : ∃ t, bs (numL n 8) = t := ⟨_, rfl⟩
  have hz5 : t5.size = 8 := by rw [← ht5, bs_size, numL_len]
  have T5 := Lib.hid ht5
  clear ht5
  obtain ⟨t6, ht6⟩ : ∃ t, bs (numL p 4) = t := ⟨_, rfl⟩
  have hz6 : t6.size = 4 := by rw [← ht6, bs_size, numL_len]
  have T6 := Lib.hid ht6
  clear ht6
  go_enter Tryz.func41, Tryz.ntmps41
  go_wp2
  refine wp_region_planL [(0, true), (1, true), (4, true), (5, true), (8, true), (9, true), (12, true), (13, true), (16, true), (17, true), (20, true), (21, true), (24, true), (25, true), (2, false), (3, true), (6, false), (7, true), (10, false), (11, true), (14, false), (15, true), (18, false), (19, true), (22, false), (23, true), (26, false), (27, true), (28, true)]
    [(29, fun w1 => w1.cell? ⟨q, 0, none⟩ = some (.int .i64 g) ∧ w1.cell? ⟨q, 1, none⟩ = some (.int .i64 e) ∧ w1.cell? ⟨q, 2, none⟩ = some (.int .i64 s) ∧ w1.cell? ⟨q, 3, none⟩ = some (.int .i64 a) ∧ w1.cell? ⟨q, 4, none⟩ = some (.int .i64 z) ∧ w1.cell? ⟨q, 5, none⟩ = some (.int .i64 n) ∧ w1.cell? ⟨q, 6, none⟩ = some (.int .i64 p))] (by kernel_rfl) (by kernel_rfl) (by intro c a d v w h; cases d <;> exact h) ?_ ?_
  · exact ⟨hd7 HX.out.drew, trivial⟩
  simp only [planOps, List.getElem?_cons_zero, List.getElem?_cons_succ]
  iterate 14 (first | ((apply plan_pure rfl; (intro w1; go_simp; try go_bits); with_reducible rfl); try simp only [Act.put, List.setIfInBounds_toArray, List.set_cons_zero, List.set_cons_succ]) | ((refine' plan_load 0 rfl (by kernel_rfl) rfl ?_ ?_; rotate_left; (intro w1 hw1; go_simp; with_reducible rfl)); try simp only [Act.put, List.setIfInBounds_toArray, List.set_cons_zero, List.set_cons_succ]))
  refine plan_loud rfl (fun K hK => ?_); go_simp
  refine (refNum_ok HX.out.drew g 8 (by have := HN.out.g2; omega) (by omega)).mono ?_
  rintro e0 w0 ⟨rfl, hx0⟩
  dsimp only
  rw [T0.out]
  refine hK _ _ ⟨hd7 hx0, trivial⟩ ?_
  clear hK K
  try simp only [Act.put, List.setIfInBounds_toArray, List.set_cons_zero, List.set_cons_succ]
  iterate 1 (first | ((apply plan_pure rfl; (intro w1; go_simp; try go_bits); with_reducible rfl); try simp only [Act.put, List.setIfInBounds_toArray, List.set_cons_zero, List.set_cons_succ]) | ((refine' plan_load 0 rfl (by kernel_rfl) rfl ?_ ?_; rotate_left; (intro w1 hw1; go_simp; with_reducible rfl)); try simp only [Act.put, List.setIfInBounds_toArray, List.set_cons_zero, List.set_cons_succ]))
  refine plan_loud rfl (fun K hK => ?_); go_simp
  refine (refNum_ok hx0 e 4 (by have := HN.out.e2; omega) (by omega)).mono ?_
  rintro e1 w1 ⟨rfl, hx1⟩
  dsimp only
  rw [T1.out]
  refine hK _ _ ⟨hd7 hx1, trivial⟩ ?_
  clear hK K
  try simp only [Act.put, List.setIfInBounds_toArray, List.set_cons_zero, List.set_cons_succ]
  iterate 1 (first | ((apply plan_pure rfl; (intro w1; go_simp; try go_bits); with_reducible rfl); try simp only [Act.put, List.setIfInBounds_toArray, List.set_cons_zero, List.set_cons_succ]) | ((refine' plan_load 0 rfl (by kernel_rfl) rfl ?_ ?_; rotate_left; (intro w1 hw1; go_simp; with_reducible rfl)); try simp only [Act.put, List.setIfInBounds_toArray, List.set_cons_zero, List.set_cons_succ]))
  refine plan_loud rfl (fun K hK => ?_); go_simp
  refine (refNum_ok hx1 s 4 (by have := HN.out.s2; omega) (by omega)).mono ?_
  rintro e2 w2 ⟨rfl, hx2⟩
  dsimp only
  rw [T2.out]
  refine hK _ _ ⟨hd7 hx2, trivial⟩ ?_
  clear hK K
  try simp only [Act.put, List.setIfInBounds_toArray, List.set_cons_zero, List.set_cons_succ]
  iterate 1 (first | ((apply plan_pure rfl; (intro w1; go_simp; try go_bits); with_reducible rfl); try simp only [Act.put, List.setIfInBounds_toArray, List.set_cons_zero, List.set_cons_succ]) | ((refine' plan_load 0 rfl (by kernel_rfl) rfl ?_ ?_; rotate_left; (intro w1 hw1; go_simp; with_reducible rfl)); try simp only [Act.put, List.setIfInBounds_toArray, List.set_cons_zero, List.set_cons_succ]))
  refine plan_loud rfl (fun K hK => ?_); go_simp
  refine (refNum_ok hx2 a 4 (by have := HN.out.a2; omega) (by omega)).mono ?_
  rintro e3 w3 ⟨rfl, hx3⟩
  dsimp only
  rw [T3.out]
  refine hK _ _ ⟨hd7 hx3, trivial⟩ ?_
  clear hK K
  try simp only [Act.put, List.setIfInBounds_toArray, List.set_cons_zero, List.set_cons_succ]
  iterate 1 (first | ((apply plan_pure rfl; (intro w1; go_simp; try go_bits); with_reducible rfl); try simp only [Act.put, List.setIfInBounds_toArray, List.set_cons_zero, List.set_cons_succ]) | ((refine' plan_load 0 rfl (by kernel_rfl) rfl ?_ ?_; rotate_left; (intro w1 hw1; go_simp; with_reducible rfl)); try simp only [Act.put, List.setIfInBounds_toArray, List.set_cons_zero, List.set_cons_succ]))
  refine plan_loud rfl (fun K hK => ?_); go_simp
  refine (refNum_ok hx3 z 4 (by have := HN.out.z2; omega) (by omega)).mono ?_
  rintro e4 w4 ⟨rfl, hx4⟩
  dsimp only
  rw [T4.out]
  refine hK _ _ ⟨hd7 hx4, trivial⟩ ?_
  clear hK K
  try simp only [Act.put, List.setIfInBounds_toArray, List.set_cons_zero, List.set_cons_succ]
  iterate 1 (first | ((apply plan_pure rfl; (intro w1; go_simp; try go_bits); with_reducible rfl); try simp only [Act.put, List.setIfInBounds_toArray, List.set_cons_zero, List.set_cons_succ]) | ((refine' plan_load 0 rfl (by kernel_rfl) rfl ?_ ?_; rotate_left; (intro w1 hw1; go_simp; with_reducible rfl)); try simp only [Act.put, List.setIfInBounds_toArray, List.set_cons_zero, List.set_cons_succ]))
  refine plan_loud rfl (fun K hK => ?_); go_simp
  refine (refNum_ok hx4 n 8 (by have := HN.out.n2; omega) (by omega)).mono ?_
  rintro e5 w5 ⟨rfl, hx5⟩
  dsimp only
  rw [T5.out]
  refine hK _ _ ⟨hd7 hx5, trivial⟩ ?_
  clear hK K
  try simp only [Act.put, List.setIfInBounds_toArray, List.set_cons_zero, List.set_cons_succ]
  iterate 1 (first | ((apply plan_pure rfl; (intro w1; go_simp; try go_bits); with_reducible rfl); try simp only [Act.put, List.setIfInBounds_toArray, List.set_cons_zero, List.set_cons_succ]) | ((refine' plan_load 0 rfl (by kernel_rfl) rfl ?_ ?_; rotate_left; (intro w1 hw1; go_simp; with_reducible rfl)); try simp only [Act.put, List.setIfInBounds_toArray, List.set_cons_zero, List.set_cons_succ]))
  refine plan_loud rfl (fun K hK => ?_); go_simp
  refine (refNum_ok hx5 p 4 (by have := HN.out.p2; omega) (by omega)).mono ?_
  rintro e6 w6 ⟨rfl, hx6⟩
  dsimp only
  rw [T6.out]
  refine hK _ _ ⟨hd7 hx6, trivial⟩ ?_
  clear hK K
  try simp only [Act.put, List.setIfInBounds_toArray, List.set_cons_zero, List.set_cons_succ]
  iterate 2 (first | ((apply plan_pure rfl; (intro w1; go_simp; try go_bits); with_reducible rfl); try simp only [Act.put, List.setIfInBounds_toArray, List.set_cons_zero, List.set_cons_succ]) | ((refine' plan_load 0 rfl (by kernel_rfl) rfl ?_ ?_; rotate_left; (intro w1 hw1; go_simp; with_reducible rfl)); try simp only [Act.put, List.setIfInBounds_toArray, List.set_cons_zero, List.set_cons_succ]))
  refine plan_nil ?_
  have hcat : (⟨#[80, 72, 68, 49]⟩ : ByteArray) ++ t0 ++ t1 ++ t2 ++ t3 ++ t4 ++ t5 ++ t6 = bs (headP h) := by
    rw [HP.out, ← T0.out, ← T1.out, ← T2.out, ← T3.out, ← T4.out, ← T5.out, ← T6.out]
    simp only [bs_append]
    rfl
  rw [hcat]
  have hps : (bs (headP h)).size = 40 := by rw [bs_size, headP_len]
  have hsl := sumOf_lt (bs (headP h))
  have hfin : pad (bs (headP h) ++ bs (numL (sumOf (bs (headP h))) 4)) = headB h := by rw [HB.out, HS.out, bs_append]
  have hns : (bs (numL (sumOf (bs (headP h))) 4)).size = 4 := by rw [bs_size, numL_len]
  obtain ⟨P, hPe⟩ : ∃ P, bs (headP h) = P := ⟨_, rfl⟩
  rw [hPe] at hps hsl hfin hns ⊢
  obtain ⟨S, hSe⟩ : ∃ S, sumOf P = S := ⟨_, rfl⟩
  rw [hSe] at hsl hfin hns
  obtain ⟨t7, ht7⟩ : ∃ t, bs (numL S 4) = t := ⟨_, rfl⟩
  rw [ht7] at hfin hns
  have HFIN := Lib.hid hfin
  have HSE := Lib.hid hSe
  have HT7 := Lib.hid ht7
  have HX6 := Lib.hid hx6
  clear hfin hSe ht7 hcat hPe hx0 hx1 hx2 hx3 hx4 hx5 hx6 hz0 hz1 hz2 hz3 hz4 hz5 hz6
  have hsz : (P ++ t7).size ≤ 9223372036854775807 := by rw [ByteArray.size_append]; omega
  go_wp2_with (first
    | (go_at_call 61; refine (refSum_ok P (by omega) _).mono ?_; rintro e8 w8 ⟨rfl, rfl⟩; rw [HSE.out])
    | (go_at_call 60; refine (refNum_ok HX6.out S 4 (by omega) (by omega)).mono ?_; rintro e9 w9 ⟨rfl, hx9⟩; rw [HT7.out]; have HX9 := Lib.hid hx9; clear hx9)
    | (go_at_call 24; refine (blank_ok _ _ hsz).mono ?_; rintro e10 w10 ⟨rfl, rfl⟩; rw [HFIN.out]))
  go_ret
  exact ⟨rfl, HX9.out.tail⟩
end Go.Proofs.YtmkpglabiikdeaaGreat

