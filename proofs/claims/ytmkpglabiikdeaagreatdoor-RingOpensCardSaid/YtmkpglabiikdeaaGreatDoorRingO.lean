/-
  Layer 12: the law RingOpens, walked.
-/
import Derived.Test.YtmkpglabiikdeaaGreatDoorRingN
namespace Go.Proofs.YtmkpglabiikdeaaGreatDoor
open Go.RowKit PH

/-- May a journal be opened? -/
def mayOpen (K : Nat) (fr cn po sq si ep : Int) : Prop := 0 ≤ fr ∧ 1 ≤ cn ∧ cn ≤ K ∧ fr ≤ K - cn ∧ 0 ≤ po ∧ po < cn ∧ 1 ≤ sq ∧ 1 ≤ ep ∧ ep ≤ 4294967295 ∧ 1 ≤ si ∧ si ≤ ep
theorem dead_no {E w : World} {L : List HP} {b : Nat} {D : Dk} (x : Sat E w (isDisk b D :: L)) (hd : D.dead = false) : Calls Tryz.prog 57 #[.pointer (some ⟨b, 0, none⟩)] w fun e w' => e = .returned (.bool false) ∧ w' = w := by
  have h := dead_ok x
  rw [hd, Bool.and_false] at h
  exact h

set_option maxRecDepth 100000 in
set_option maxHeartbeats 3200000 in
theorem open_bad {E W : World} {L : List HP} {b : Nat} {D : Dk} {K : Nat} (x : Sat E W (isDisk b D :: L)) (hK : D.kept.length = K) (hk0 : 0 < K) (hk1 : K ≤ 1000000) (hd : D.dead = false) (fr cn po sq si ep : Int) (hbad : ¬ mayOpen K fr cn po sq si ep) :
    Calls Tryz.prog 18 #[.pointer (some ⟨b, 0, none⟩), .int .i64 fr, .int .i64 cn, .int .i64 po, .int .i64 sq, .int .i64 si, .int .i64 ep] W fun e w' => e = .returned (.tuple #[.pointer none, .slice none 0 0, .int .i64 3]) ∧ w' = W := by
  have hsz := size_ok x
  rw [hK] at hsz
  have hdd := dead_no x hd
  have HSZ := Lib.hid hsz
  have HDD := Lib.hid hdd
  have HBAD := Lib.hid hbad
  have hne : ¬ K = 0 := by omega
  clear x hK hd hsz hdd hbad
  by_cases h0 : fr < 0
  · go_enter Tryz.func18, Tryz.ntmps18
    go_wp2_with (first
      | (go_at_call 56; refine HSZ.out.mono ?_; rintro e w1 ⟨rfl, hw⟩; subst w1)
      | (go_at_call 57; refine HDD.out.mono ?_; rintro e w1 ⟨rfl, hw⟩; subst w1))
    refine bodyPost_ret (results_tmp3 rfl _ _ _) rfl ?_
    exact ⟨rfl, rfl⟩
  by_cases h1 : cn < 1
  · go_enter Tryz.func18, Tryz.ntmps18
    go_wp2_with (first
      | (go_at_call 56; refine HSZ.out.mono ?_; rintro e w1 ⟨rfl, hw⟩; subst w1)
      | (go_at_call 57; refine HDD.out.mono ?_; rintro e w1 ⟨rfl, hw⟩; subst w1))
    refine bodyPost_ret (results_tmp3 rfl _ _ _) rfl ?_
    exact ⟨rfl, rfl⟩
  by_cases h2 : (K : Int) < cn
  · go_enter Tryz.func18, Tryz.ntmps18
    go_wp2_with (first
      | (go_at_call 56; refine HSZ.out.mono ?_; rintro e w1 ⟨rfl, hw⟩; subst w1)
      | (go_at_call 57; refine HDD.out.mono ?_; rintro e w1 ⟨rfl, hw⟩; subst w1))
    refine bodyPost_ret (results_tmp3 rfl _ _ _) rfl ?_
    exact ⟨rfl, rfl⟩
  by_cases h3 : (K : Int) - cn < fr
  · go_enter Tryz.func18, Tryz.ntmps18
    go_wp2_with (first
      | (go_at_call 56; refine HSZ.out.mono ?_; rintro e w1 ⟨rfl, hw⟩; subst w1)
      | (go_at_call 57; refine HDD.out.mono ?_; rintro e w1 ⟨rfl, hw⟩; subst w1))
    refine bodyPost_ret (results_tmp3 rfl _ _ _) rfl ?_
    exact ⟨rfl, rfl⟩
  by_cases h4 : po < 0
  · go_enter Tryz.func18, Tryz.ntmps18
    go_wp2_with (first
      | (go_at_call 56; refine HSZ.out.mono ?_; rintro e w1 ⟨rfl, hw⟩; subst w1)
      | (go_at_call 57; refine HDD.out.mono ?_; rintro e w1 ⟨rfl, hw⟩; subst w1))
    refine bodyPost_ret (results_tmp3 rfl _ _ _) rfl ?_
    exact ⟨rfl, rfl⟩
  by_cases h5 : cn ≤ po
  · go_enter Tryz.func18, Tryz.ntmps18
    go_wp2_with (first
      | (go_at_call 56; refine HSZ.out.mono ?_; rintro e w1 ⟨rfl, hw⟩; subst w1)
      | (go_at_call 57; refine HDD.out.mono ?_; rintro e w1 ⟨rfl, hw⟩; subst w1))
    refine bodyPost_ret (results_tmp3 rfl _ _ _) rfl ?_
    exact ⟨rfl, rfl⟩
  by_cases h6 : sq < 1
  · go_enter Tryz.func18, Tryz.ntmps18
    go_wp2_with (first
      | (go_at_call 56; refine HSZ.out.mono ?_; rintro e w1 ⟨rfl, hw⟩; subst w1)
      | (go_at_call 57; refine HDD.out.mono ?_; rintro e w1 ⟨rfl, hw⟩; subst w1))
    refine bodyPost_ret (results_tmp3 rfl _ _ _) rfl ?_
    exact ⟨rfl, rfl⟩
  by_cases h7 : ep < 1
  · go_enter Tryz.func18, Tryz.ntmps18
    go_wp2_with (first
      | (go_at_call 56; refine HSZ.out.mono ?_; rintro e w1 ⟨rfl, hw⟩; subst w1)
      | (go_at_call 57; refine HDD.out.mono ?_; rintro e w1 ⟨rfl, hw⟩; subst w1))
    refine bodyPost_ret (results_tmp3 rfl _ _ _) rfl ?_
    exact ⟨rfl, rfl⟩
  by_cases h8 : 4294967295 < ep
  · go_enter Tryz.func18, Tryz.ntmps18
    go_wp2_with (first
      | (go_at_call 56; refine HSZ.out.mono ?_; rintro e w1 ⟨rfl, hw⟩; subst w1)
      | (go_at_call 57; refine HDD.out.mono ?_; rintro e w1 ⟨rfl, hw⟩; subst w1))
    refine bodyPost_ret (results_tmp3 rfl _ _ _) rfl ?_
    exact ⟨rfl, rfl⟩
  by_cases h9 : si < 1
  · go_enter Tryz.func18, Tryz.ntmps18
    go_wp2_with (first
      | (go_at_call 56; refine HSZ.out.mono ?_; rintro e w1 ⟨rfl, hw⟩; subst w1)
      | (go_at_call 57; refine HDD.out.mono ?_; rintro e w1 ⟨rfl, hw⟩; subst w1))
    refine bodyPost_ret (results_tmp3 rfl _ _ _) rfl ?_
    exact ⟨rfl, rfl⟩
  by_cases h10 : ep < si
  · go_enter Tryz.func18, Tryz.ntmps18
    go_wp2_with (first
      | (go_at_call 56; refine HSZ.out.mono ?_; rintro e w1 ⟨rfl, hw⟩; subst w1)
      | (go_at_call 57; refine HDD.out.mono ?_; rintro e w1 ⟨rfl, hw⟩; subst w1))
    refine bodyPost_ret (results_tmp3 rfl _ _ _) rfl ?_
    exact ⟨rfl, rfl⟩
  exfalso
  exact HBAD.out (by unfold mayOpen; omega)

set_option maxRecDepth 100000 in
set_option maxHeartbeats 6400000 in
theorem ringOpens_ok (fr cn po sq si ep : Int) (hsq : sq ≤ 9223372036854775807) (W : World) : Calls Tryz.prog 5 #[.int .i64 fr, .int .i64 cn, .int .i64 po, .int .i64 sq, .agg #[.int .i64 si, .int .i64 ep]] W (TrueBelow12 W) := by
  have hx0 := (Sat.start W).alloc (.cells #[.int .i64 si, .int .i64 ep] 38)
  obtain ⟨q, hq⟩ : ∃ q, W.heap.size = q := ⟨_, rfl⟩
  rw [hq] at hx0
  have hx1 := hx0.drew
  have c0 : (W.alloc (.cells #[.int .i64 si, .int .i64 ep] 38)).drew.cell? ⟨q, 0, none⟩ = some (.int .i64 si) := cell_blk hx1.at 0
  have c1 : (W.alloc (.cells #[.int .i64 si, .int .i64 ep] 38)).drew.cell? ⟨q, 1, none⟩ = some (.int .i64 ep) := cell_blk hx1.at 1
  have hnew := fun (w : World) (L : List HP) (x : Sat W w L) => new_ok (n := 9) x (by omega) (by omega)
  have hbad := fun (h : ¬ mayOpen 9 fr cn po sq si ep) (b : Nat) (w : World) (L : List HP) (y : Sat W w (isDisk b (newD 9) :: L)) => open_bad y (newD_len 9) (by omega) (by omega) rfl fr cn po sq si ep h
  have HX1 := Lib.hid hx1
  have HNEW := Lib.hid hnew
  have HBAD := Lib.hid hbad
  clear hx0 hx1 hnew hbad
  by_cases h0 : fr < 0
  · have hop := HBAD.out (by unfold mayOpen; omega)
    have HOP := Lib.hid hop
    clear hop
    go_enter Tryz.func5, Tryz.ntmps5
    go_wp2
    refine wp_region_planL [(0, true), (1, true), (2, true), (3, true), (4, true), (5, true)]
      [(6, fun w1 => w1.cell? ⟨q, 0, none⟩ = some (.int .i64 si) ∧ w1.cell? ⟨q, 1, none⟩ = some (.int .i64 ep))] (by kernel_rfl) (by kernel_rfl) (by intro c a d v w h; cases d <;> exact h) ?_ ?_
    · exact ⟨⟨c0, c1⟩, trivial⟩
    simp only [planOps, List.getElem?_cons_zero, List.getElem?_cons_succ]
    iterate 6 (first | ((apply plan_pure rfl; (intro w1; go_simp; try go_bits); with_reducible rfl); try simp only [Act.put, List.setIfInBounds_toArray, List.set_cons_zero, List.set_cons_succ]) | ((refine' plan_load 0 rfl (by kernel_rfl) rfl ?_ ?_; rotate_left; (intro w1 hw1; go_simp; with_reducible rfl)); try simp only [Act.put, List.setIfInBounds_toArray, List.set_cons_zero, List.set_cons_succ]))
    refine plan_nil ?_
    go_wp2_with (first
      | (go_at_call 17; refine (HNEW.out _ _ HX1.out).mono ?_; rintro e w2 ⟨b, rfl, hx2⟩; have HX2 := Lib.hid hx2; clear hx2)
      | (go_at_call 18; refine (HOP.out _ _ _ HX2.out).mono ?_; rintro e w3 ⟨rfl, hw⟩; subst w3)
      | (go_at_call 19; refine (known12_ok _).mono ?_; rintro e w' ⟨rfl, hb⟩))
    go_ret
    exact ⟨rfl, to_known12 HX2.out.p2 hb⟩
  by_cases h1 : 9 < fr
  · have hop := HBAD.out (by unfold mayOpen; omega)
    have HOP := Lib.hid hop
    clear hop
    go_enter Tryz.func5, Tryz.ntmps5
    go_wp2
    refine wp_region_planL [(0, true), (1, true), (2, true), (3, true), (4, true), (5, true)]
      [(6, fun w1 => w1.cell? ⟨q, 0, none⟩ = some (.int .i64 si) ∧ w1.cell? ⟨q, 1, none⟩ = some (.int .i64 ep))] (by kernel_rfl) (by kernel_rfl) (by intro c a d v w h; cases d <;> exact h) ?_ ?_
    · exact ⟨⟨c0, c1⟩, trivial⟩
    simp only [planOps, List.getElem?_cons_zero, List.getElem?_cons_succ]
    iterate 6 (first | ((apply plan_pure rfl; (intro w1; go_simp; try go_bits); with_reducible rfl); try simp only [Act.put, List.setIfInBounds_toArray, List.set_cons_zero, List.set_cons_succ]) | ((refine' plan_load 0 rfl (by kernel_rfl) rfl ?_ ?_; rotate_left; (intro w1 hw1; go_simp; with_reducible rfl)); try simp only [Act.put, List.setIfInBounds_toArray, List.set_cons_zero, List.set_cons_succ]))
    refine plan_nil ?_
    go_wp2_with (first
      | (go_at_call 17; refine (HNEW.out _ _ HX1.out).mono ?_; rintro e w2 ⟨b, rfl, hx2⟩; have HX2 := Lib.hid hx2; clear hx2)
      | (go_at_call 18; refine (HOP.out _ _ _ HX2.out).mono ?_; rintro e w3 ⟨rfl, hw⟩; subst w3)
      | (go_at_call 19; refine (known12_ok _).mono ?_; rintro e w' ⟨rfl, hb⟩))
    go_ret
    exact ⟨rfl, to_known12 HX2.out.p2 hb⟩
  by_cases h2 : cn < 1
  · have hop := HBAD.out (by unfold mayOpen; omega)
    have HOP := Lib.hid hop
    clear hop
    go_enter Tryz.func5, Tryz.ntmps5
    go_wp2
    refine wp_region_planL [(0, true), (1, true), (2, true), (3, true), (4, true), (5, true)]
      [(6, fun w1 => w1.cell? ⟨q, 0, none⟩ = some (.int .i64 si) ∧ w1.cell? ⟨q, 1, none⟩ = some (.int .i64 ep))] (by kernel_rfl) (by kernel_rfl) (by intro c a d v w h; cases d <;> exact h) ?_ ?_
    · exact ⟨⟨c0, c1⟩, trivial⟩
    simp only [planOps, List.getElem?_cons_zero, List.getElem?_cons_succ]
    iterate 6 (first | ((apply plan_pure rfl; (intro w1; go_simp; try go_bits); with_reducible rfl); try simp only [Act.put, List.setIfInBounds_toArray, List.set_cons_zero, List.set_cons_succ]) | ((refine' plan_load 0 rfl (by kernel_rfl) rfl ?_ ?_; rotate_left; (intro w1 hw1; go_simp; with_reducible rfl)); try simp only [Act.put, List.setIfInBounds_toArray, List.set_cons_zero, List.set_cons_succ]))
    refine plan_nil ?_
    go_wp2_with (first
      | (go_at_call 17; refine (HNEW.out _ _ HX1.out).mono ?_; rintro e w2 ⟨b, rfl, hx2⟩; have HX2 := Lib.hid hx2; clear hx2)
      | (go_at_call 18; refine (HOP.out _ _ _ HX2.out).mono ?_; rintro e w3 ⟨rfl, hw⟩; subst w3)
      | (go_at_call 19; refine (known12_ok _).mono ?_; rintro e w' ⟨rfl, hb⟩))
    go_ret
    exact ⟨rfl, to_known12 HX2.out.p2 hb⟩
  by_cases h3 : 9 < cn
  · have hop := HBAD.out (by unfold mayOpen; omega)
    have HOP := Lib.hid hop
    clear hop
    go_enter Tryz.func5, Tryz.ntmps5
    go_wp2
    refine wp_region_planL [(0, true), (1, true), (2, true), (3, true), (4, true), (5, true)]
      [(6, fun w1 => w1.cell? ⟨q, 0, none⟩ = some (.int .i64 si) ∧ w1.cell? ⟨q, 1, none⟩ = some (.int .i64 ep))] (by kernel_rfl) (by kernel_rfl) (by intro c a d v w h; cases d <;> exact h) ?_ ?_
    · exact ⟨⟨c0, c1⟩, trivial⟩
    simp only [planOps, List.getElem?_cons_zero, List.getElem?_cons_succ]
    iterate 6 (first | ((apply plan_pure rfl; (intro w1; go_simp; try go_bits); with_reducible rfl); try simp only [Act.put, List.setIfInBounds_toArray, List.set_cons_zero, List.set_cons_succ]) | ((refine' plan_load 0 rfl (by kernel_rfl) rfl ?_ ?_; rotate_left; (intro w1 hw1; go_simp; with_reducible rfl)); try simp only [Act.put, List.setIfInBounds_toArray, List.set_cons_zero, List.set_cons_succ]))
    refine plan_nil ?_
    go_wp2_with (first
      | (go_at_call 17; refine (HNEW.out _ _ HX1.out).mono ?_; rintro e w2 ⟨b, rfl, hx2⟩; have HX2 := Lib.hid hx2; clear hx2)
      | (go_at_call 18; refine (HOP.out _ _ _ HX2.out).mono ?_; rintro e w3 ⟨rfl, hw⟩; subst w3)
      | (go_at_call 19; refine (known12_ok _).mono ?_; rintro e w' ⟨rfl, hb⟩))
    go_ret
    exact ⟨rfl, to_known12 HX2.out.p2 hb⟩
  by_cases h4 : po < 0
  · have hop := HBAD.out (by unfold mayOpen; omega)
    have HOP := Lib.hid hop
    clear hop
    go_enter Tryz.func5, Tryz.ntmps5
    go_wp2
    refine wp_region_planL [(0, true), (1, true), (2, true), (3, true), (4, true), (5, true)]
      [(6, fun w1 => w1.cell? ⟨q, 0, none⟩ = some (.int .i64 si) ∧ w1.cell? ⟨q, 1, none⟩ = some (.int .i64 ep))] (by kernel_rfl) (by kernel_rfl) (by intro c a d v w h; cases d <;> exact h) ?_ ?_
    · exact ⟨⟨c0, c1⟩, trivial⟩
    simp only [planOps, List.getElem?_cons_zero, List.getElem?_cons_succ]
    iterate 6 (first | ((apply plan_pure rfl; (intro w1; go_simp; try go_bits); with_reducible rfl); try simp only [Act.put, List.setIfInBounds_toArray, List.set_cons_zero, List.set_cons_succ]) | ((refine' plan_load 0 rfl (by kernel_rfl) rfl ?_ ?_; rotate_left; (intro w1 hw1; go_simp; with_reducible rfl)); try simp only [Act.put, List.setIfInBounds_toArray, List.set_cons_zero, List.set_cons_succ]))
    refine plan_nil ?_
    go_wp2_with (first
      | (go_at_call 17; refine (HNEW.out _ _ HX1.out).mono ?_; rintro e w2 ⟨b, rfl, hx2⟩; have HX2 := Lib.hid hx2; clear hx2)
      | (go_at_call 18; refine (HOP.out _ _ _ HX2.out).mono ?_; rintro e w3 ⟨rfl, hw⟩; subst w3)
      | (go_at_call 19; refine (known12_ok _).mono ?_; rintro e w' ⟨rfl, hb⟩))
    go_ret
    exact ⟨rfl, to_known12 HX2.out.p2 hb⟩
  by_cases h5 : cn ≤ po
  · have hop := HBAD.out (by unfold mayOpen; omega)
    have HOP := Lib.hid hop
    clear hop
    go_enter Tryz.func5, Tryz.ntmps5
    go_wp2
    refine wp_region_planL [(0, true), (1, true), (2, true), (3, true), (4, true), (5, true)]
      [(6, fun w1 => w1.cell? ⟨q, 0, none⟩ = some (.int .i64 si) ∧ w1.cell? ⟨q, 1, none⟩ = some (.int .i64 ep))] (by kernel_rfl) (by kernel_rfl) (by intro c a d v w h; cases d <;> exact h) ?_ ?_
    · exact ⟨⟨c0, c1⟩, trivial⟩
    simp only [planOps, List.getElem?_cons_zero, List.getElem?_cons_succ]
    iterate 6 (first | ((apply plan_pure rfl; (intro w1; go_simp; try go_bits); with_reducible rfl); try simp only [Act.put, List.setIfInBounds_toArray, List.set_cons_zero, List.set_cons_succ]) | ((refine' plan_load 0 rfl (by kernel_rfl) rfl ?_ ?_; rotate_left; (intro w1 hw1; go_simp; with_reducible rfl)); try simp only [Act.put, List.setIfInBounds_toArray, List.set_cons_zero, List.set_cons_succ]))
    refine plan_nil ?_
    go_wp2_with (first
      | (go_at_call 17; refine (HNEW.out _ _ HX1.out).mono ?_; rintro e w2 ⟨b, rfl, hx2⟩; have HX2 := Lib.hid hx2; clear hx2)
      | (go_at_call 18; refine (HOP.out _ _ _ HX2.out).mono ?_; rintro e w3 ⟨rfl, hw⟩; subst w3)
      | (go_at_call 19; refine (known12_ok _).mono ?_; rintro e w' ⟨rfl, hb⟩))
    go_ret
    exact ⟨rfl, to_known12 HX2.out.p2 hb⟩
  by_cases h6 : sq < 1
  · have hop := HBAD.out (by unfold mayOpen; omega)
    have HOP := Lib.hid hop
    clear hop
    go_enter Tryz.func5, Tryz.ntmps5
    go_wp2
    refine wp_region_planL [(0, true), (1, true), (2, true), (3, true), (4, true), (5, true)]
      [(6, fun w1 => w1.cell? ⟨q, 0, none⟩ = some (.int .i64 si) ∧ w1.cell? ⟨q, 1, none⟩ = some (.int .i64 ep))] (by kernel_rfl) (by kernel_rfl) (by intro c a d v w h; cases d <;> exact h) ?_ ?_
    · exact ⟨⟨c0, c1⟩, trivial⟩
    simp only [planOps, List.getElem?_cons_zero, List.getElem?_cons_succ]
    iterate 6 (first | ((apply plan_pure rfl; (intro w1; go_simp; try go_bits); with_reducible rfl); try simp only [Act.put, List.setIfInBounds_toArray, List.set_cons_zero, List.set_cons_succ]) | ((refine' plan_load 0 rfl (by kernel_rfl) rfl ?_ ?_; rotate_left; (intro w1 hw1; go_simp; with_reducible rfl)); try simp only [Act.put, List.setIfInBounds_toArray, List.set_cons_zero, List.set_cons_succ]))
    refine plan_nil ?_
    go_wp2_with (first
      | (go_at_call 17; refine (HNEW.out _ _ HX1.out).mono ?_; rintro e w2 ⟨b, rfl, hx2⟩; have HX2 := Lib.hid hx2; clear hx2)
      | (go_at_call 18; refine (HOP.out _ _ _ HX2.out).mono ?_; rintro e w3 ⟨rfl, hw⟩; subst w3)
      | (go_at_call 19; refine (known12_ok _).mono ?_; rintro e w' ⟨rfl, hb⟩))
    go_ret
    exact ⟨rfl, to_known12 HX2.out.p2 hb⟩
  by_cases h7 : ep < 1
  · have hop := HBAD.out (by unfold mayOpen; omega)
    have HOP := Lib.hid hop
    clear hop
    go_enter Tryz.func5, Tryz.ntmps5
    go_wp2
    refine wp_region_planL [(0, true), (1, true), (2, true), (3, true), (4, true), (5, true)]
      [(6, fun w1 => w1.cell? ⟨q, 0, none⟩ = some (.int .i64 si) ∧ w1.cell? ⟨q, 1, none⟩ = some (.int .i64 ep))] (by kernel_rfl) (by kernel_rfl) (by intro c a d v w h; cases d <;> exact h) ?_ ?_
    · exact ⟨⟨c0, c1⟩, trivial⟩
    simp only [planOps, List.getElem?_cons_zero, List.getElem?_cons_succ]
    iterate 6 (first | ((apply plan_pure rfl; (intro w1; go_simp; try go_bits); with_reducible rfl); try simp only [Act.put, List.setIfInBounds_toArray, List.set_cons_zero, List.set_cons_succ]) | ((refine' plan_load 0 rfl (by kernel_rfl) rfl ?_ ?_; rotate_left; (intro w1 hw1; go_simp; with_reducible rfl)); try simp only [Act.put, List.setIfInBounds_toArray, List.set_cons_zero, List.set_cons_succ]))
    refine plan_nil ?_
    go_wp2_with (first
      | (go_at_call 17; refine (HNEW.out _ _ HX1.out).mono ?_; rintro e w2 ⟨b, rfl, hx2⟩; have HX2 := Lib.hid hx2; clear hx2)
      | (go_at_call 18; refine (HOP.out _ _ _ HX2.out).mono ?_; rintro e w3 ⟨rfl, hw⟩; subst w3)
      | (go_at_call 19; refine (known12_ok _).mono ?_; rintro e w' ⟨rfl, hb⟩))
    go_ret
    exact ⟨rfl, to_known12 HX2.out.p2 hb⟩
  by_cases h8 : 4294967295 < ep
  · have hop := HBAD.out (by unfold mayOpen; omega)
    have HOP := Lib.hid hop
    clear hop
    go_enter Tryz.func5, Tryz.ntmps5
    go_wp2
    refine wp_region_planL [(0, true), (1, true), (2, true), (3, true), (4, true), (5, true)]
      [(6, fun w1 => w1.cell? ⟨q, 0, none⟩ = some (.int .i64 si) ∧ w1.cell? ⟨q, 1, none⟩ = some (.int .i64 ep))] (by kernel_rfl) (by kernel_rfl) (by intro c a d v w h; cases d <;> exact h) ?_ ?_
    · exact ⟨⟨c0, c1⟩, trivial⟩
    simp only [planOps, List.getElem?_cons_zero, List.getElem?_cons_succ]
    iterate 6 (first | ((apply plan_pure rfl; (intro w1; go_simp; try go_bits); with_reducible rfl); try simp only [Act.put, List.setIfInBounds_toArray, List.set_cons_zero, List.set_cons_succ]) | ((refine' plan_load 0 rfl (by kernel_rfl) rfl ?_ ?_; rotate_left; (intro w1 hw1; go_simp; with_reducible rfl)); try simp only [Act.put, List.setIfInBounds_toArray, List.set_cons_zero, List.set_cons_succ]))
    refine plan_nil ?_
    go_wp2_with (first
      | (go_at_call 17; refine (HNEW.out _ _ HX1.out).mono ?_; rintro e w2 ⟨b, rfl, hx2⟩; have HX2 := Lib.hid hx2; clear hx2)
      | (go_at_call 18; refine (HOP.out _ _ _ HX2.out).mono ?_; rintro e w3 ⟨rfl, hw⟩; subst w3)
      | (go_at_call 19; refine (known12_ok _).mono ?_; rintro e w' ⟨rfl, hb⟩))
    go_ret
    exact ⟨rfl, to_known12 HX2.out.p2 hb⟩
  by_cases h9 : si < 1
  · have hop := HBAD.out (by unfold mayOpen; omega)
    have HOP := Lib.hid hop
    clear hop
    go_enter Tryz.func5, Tryz.ntmps5
    go_wp2
    refine wp_region_planL [(0, true), (1, true), (2, true), (3, true), (4, true), (5, true)]
      [(6, fun w1 => w1.cell? ⟨q, 0, none⟩ = some (.int .i64 si) ∧ w1.cell? ⟨q, 1, none⟩ = some (.int .i64 ep))] (by kernel_rfl) (by kernel_rfl) (by intro c a d v w h; cases d <;> exact h) ?_ ?_
    · exact ⟨⟨c0, c1⟩, trivial⟩
    simp only [planOps, List.getElem?_cons_zero, List.getElem?_cons_succ]
    iterate 6 (first | ((apply plan_pure rfl; (intro w1; go_simp; try go_bits); with_reducible rfl); try simp only [Act.put, List.setIfInBounds_toArray, List.set_cons_zero, List.set_cons_succ]) | ((refine' plan_load 0 rfl (by kernel_rfl) rfl ?_ ?_; rotate_left; (intro w1 hw1; go_simp; with_reducible rfl)); try simp only [Act.put, List.setIfInBounds_toArray, List.set_cons_zero, List.set_cons_succ]))
    refine plan_nil ?_
    go_wp2_with (first
      | (go_at_call 17; refine (HNEW.out _ _ HX1.out).mono ?_; rintro e w2 ⟨b, rfl, hx2⟩; have HX2 := Lib.hid hx2; clear hx2)
      | (go_at_call 18; refine (HOP.out _ _ _ HX2.out).mono ?_; rintro e w3 ⟨rfl, hw⟩; subst w3)
      | (go_at_call 19; refine (known12_ok _).mono ?_; rintro e w' ⟨rfl, hb⟩))
    go_ret
    exact ⟨rfl, to_known12 HX2.out.p2 hb⟩
  by_cases h10 : ep < si
  · have hop := HBAD.out (by unfold mayOpen; omega)
    have HOP := Lib.hid hop
    clear hop
    go_enter Tryz.func5, Tryz.ntmps5
    go_wp2
    refine wp_region_planL [(0, true), (1, true), (2, true), (3, true), (4, true), (5, true)]
      [(6, fun w1 => w1.cell? ⟨q, 0, none⟩ = some (.int .i64 si) ∧ w1.cell? ⟨q, 1, none⟩ = some (.int .i64 ep))] (by kernel_rfl) (by kernel_rfl) (by intro c a d v w h; cases d <;> exact h) ?_ ?_
    · exact ⟨⟨c0, c1⟩, trivial⟩
    simp only [planOps, List.getElem?_cons_zero, List.getElem?_cons_succ]
    iterate 6 (first | ((apply plan_pure rfl; (intro w1; go_simp; try go_bits); with_reducible rfl); try simp only [Act.put, List.setIfInBounds_toArray, List.set_cons_zero, List.set_cons_succ]) | ((refine' plan_load 0 rfl (by kernel_rfl) rfl ?_ ?_; rotate_left; (intro w1 hw1; go_simp; with_reducible rfl)); try simp only [Act.put, List.setIfInBounds_toArray, List.set_cons_zero, List.set_cons_succ]))
    refine plan_nil ?_
    go_wp2_with (first
      | (go_at_call 17; refine (HNEW.out _ _ HX1.out).mono ?_; rintro e w2 ⟨b, rfl, hx2⟩; have HX2 := Lib.hid hx2; clear hx2)
      | (go_at_call 18; refine (HOP.out _ _ _ HX2.out).mono ?_; rintro e w3 ⟨rfl, hw⟩; subst w3)
      | (go_at_call 19; refine (known12_ok _).mono ?_; rintro e w' ⟨rfl, hb⟩))
    go_ret
    exact ⟨rfl, to_known12 HX2.out.p2 hb⟩
  by_cases h11 : 9 - cn < fr
  · have hop := HBAD.out (by unfold mayOpen; omega)
    have HOP := Lib.hid hop
    clear hop
    go_enter Tryz.func5, Tryz.ntmps5
    go_wp2
    refine wp_region_planL [(0, true), (1, true), (2, true), (3, true), (4, true), (5, true)]
      [(6, fun w1 => w1.cell? ⟨q, 0, none⟩ = some (.int .i64 si) ∧ w1.cell? ⟨q, 1, none⟩ = some (.int .i64 ep))] (by kernel_rfl) (by kernel_rfl) (by intro c a d v w h; cases d <;> exact h) ?_ ?_
    · exact ⟨⟨c0, c1⟩, trivial⟩
    simp only [planOps, List.getElem?_cons_zero, List.getElem?_cons_succ]
    iterate 6 (first | ((apply plan_pure rfl; (intro w1; go_simp; try go_bits); with_reducible rfl); try simp only [Act.put, List.setIfInBounds_toArray, List.set_cons_zero, List.set_cons_succ]) | ((refine' plan_load 0 rfl (by kernel_rfl) rfl ?_ ?_; rotate_left; (intro w1 hw1; go_simp; with_reducible rfl)); try simp only [Act.put, List.setIfInBounds_toArray, List.set_cons_zero, List.set_cons_succ]))
    refine plan_nil ?_
    go_wp2_with (first
      | (go_at_call 17; refine (HNEW.out _ _ HX1.out).mono ?_; rintro e w2 ⟨b, rfl, hx2⟩; have HX2 := Lib.hid hx2; clear hx2)
      | (go_at_call 18; refine (HOP.out _ _ _ HX2.out).mono ?_; rintro e w3 ⟨rfl, hw⟩; subst w3)
      | (go_at_call 19; refine (known12_ok _).mono ?_; rintro e w' ⟨rfl, hb⟩))
    go_ret
    exact ⟨rfl, to_known12 HX2.out.p2 hb⟩
  obtain ⟨f, rfl⟩ : ∃ f : Nat, fr = f := ⟨fr.toNat, by omega⟩
  obtain ⟨c, rfl⟩ : ∃ f : Nat, cn = f := ⟨cn.toNat, by omega⟩
  obtain ⟨p, rfl⟩ : ∃ f : Nat, po = f := ⟨po.toNat, by omega⟩
  have hop := fun (b : Nat) (w : World) (L : List HP) (y : Sat W w (isDisk b (newD 9) :: L)) => opened_new y (by omega) (by omega) (fr := f) (cn := c) (po := p) (sq := sq) (si := si) (ep := ep) ⟨by omega, by rw [newD_len]; omega, by rw [newD_len]; omega, by omega, by omega, by omega, by omega, by omega, by omega, by omega⟩
  have HOP := Lib.hid hop
  clear hop HBAD
  go_enter Tryz.func5, Tryz.ntmps5
  go_wp2
  refine wp_region_planL [(0, true), (1, true), (2, true), (3, true), (4, true), (5, true)]
    [(6, fun w1 => w1.cell? ⟨q, 0, none⟩ = some (.int .i64 si) ∧ w1.cell? ⟨q, 1, none⟩ = some (.int .i64 ep))] (by kernel_rfl) (by kernel_rfl) (by intro c a d v w h; cases d <;> exact h) ?_ ?_
  · exact ⟨⟨c0, c1⟩, trivial⟩
  simp only [planOps, List.getElem?_cons_zero, List.getElem?_cons_succ]
  iterate 6 (first | ((apply plan_pure rfl; (intro w1; go_simp; try go_bits); with_reducible rfl); try simp only [Act.put, List.setIfInBounds_toArray, List.set_cons_zero, List.set_cons_succ]) | ((refine' plan_load 0 rfl (by kernel_rfl) rfl ?_ ?_; rotate_left; (intro w1 hw1; go_simp; with_reducible rfl)); try simp only [Act.put, List.setIfInBounds_toArray, List.set_cons_zero, List.set_cons_succ]))
  refine plan_nil ?_
  go_wp2_with (first
    | (go_at_call 17; refine (HNEW.out _ _ HX1.out).mono ?_; rintro e w2 ⟨b, rfl, hx2⟩; have HX2 := Lib.hid hx2; clear hx2)
    | (go_at_call 18; refine (HOP.out _ _ _ HX2.out).mono ?_; rintro e w3 ⟨q3, a3, c3, rfl, hx3⟩; have HX3 := Lib.hid hx3; clear hx3)
    | (go_at_call 20; with_reducible refine (room_ok HX3.out (by dsimp only; omega) (by dsimp only; omega)).mono ?_; rintro e w9 ⟨rfl, hw9⟩; have hx9 := HX3.out.drew; rw [← hw9] at hx9; have HX9 := Lib.hid hx9; clear hx9 hw9; dsimp only)
    | (go_at_call 21; with_reducible refine (pos_ok HX9.out).mono ?_; rintro e w8 ⟨rfl, hw⟩; subst w8; dsimp only)
    | (go_at_call 22; with_reducible refine (next_ok HX9.out).mono ?_; rintro e w7 ⟨rfl, hw⟩; subst w7; dsimp only)
    | (go_at_call 19; refine (known12_ok _).mono ?_; rintro e w' ⟨rfl, hb⟩))
  go_ret
  exact ⟨rfl, to_known12 HX9.out.p3 hb⟩
end Go.Proofs.YtmkpglabiikdeaaGreatDoor
