/-
  The document's reader: numbers of eight bytes, walked.
-/
import Derived.Test.YtodjdcdbmbmbmaaGreatDoorRfR
namespace Go.Proofs.YtodjdcdbmbmbmaaGreatDoor
open Go.RowKit PH

theorem numAt_top (s : ByteArray) : ∀ j, byt s 0 * 256 ^ j ≤ numAt s (j + 1) ∧ numAt s (j + 1) < (byt s 0 + 1) * 256 ^ j
  | 0 => by simp [numAt]
  | j + 1 => by
    have h1 := numAt_top s j
    have h2 := byt_lt s (j + 1)
    have e : numAt s (j + 1 + 1) = 256 * numAt s (j + 1) + byt s (j + 1) := rfl
    rw [e, Nat.pow_succ, ← Nat.mul_assoc, ← Nat.mul_assoc]
    omega
theorem numAt_low (s : ByteArray) (h : byt s 0 ≤ 127) : ∀ j, j ≤ 7 → numAt s j < 36028797018963968
  | 0, _ => by simp [numAt]
  | j + 1, hj => by
    have h1 := (numAt_top s j).2
    have h2 : (byt s 0 + 1) * 256 ^ j ≤ 128 * 256 ^ 6 := Nat.mul_le_mul (by omega) (Nat.pow_le_pow_right (by omega) (by omega))
    omega

set_option maxRecDepth 100000 in
set_option maxHeartbeats 1600000 in
theorem refU8_ok {E W : World} {L : List HP} {b at_ : Nat} {S : ByteArray} {err : Int} (x : Sat E W (isRf b S at_ err :: L)) (hat : at_ ≤ S.size) (hs : S.size ≤ 9223372036854775000) :
    Calls Tryz.prog 13 #[.pointer (some ⟨b, 0, none⟩), .int .i64 8] W fun e w' => e = .returned (.int .i64 (r8N (left S at_) err)) ∧ Sat E w' (isRf b S (if 9223372036854775808 ≤ rdN (left S at_) err 8 then at_ else rfAt S at_ err 8) (r8E (left S at_) err) :: L) := by
  have c0 := cell_blk x.at 0
  have c1 := cell_blk x.at 1
  have c2 := cell_blk x.at 2
  have f1 := frozen_blk x.at 1
  have f2 := frozen_blk x.at 2
  have HX := Lib.hid x
  clear x
  by_cases he : err = 0
  · subst he
    by_cases hsz : S.size < at_ + 8
    · have hls : (left S at_).size < 8 := by rw [left_size]; omega
      have eN : rdN (left S at_) 0 8 = 0 := by unfold rdN; rw [if_neg (by simp), if_pos hls]
      have eE : rdE (left S at_) 0 8 = 10 := by unfold rdE; rw [if_neg (by simp), if_pos hls]
      have eA : rfAt S at_ 0 8 = at_ := by unfold rfAt; rw [if_neg (by simp), if_pos hls]
      have h9 : ¬ 9223372036854775808 ≤ rdN (left S at_) 0 8 := by rw [eN]; omega
      unfold r8N r8E
      rw [if_neg h9, if_neg h9, if_neg h9, eN, eE, eA]
      clear h9
      have HX2 := Lib.hid (HX.out.setCell 2 (.int .i64 10))
      clear eN eE eA hls
      go_enter Tryz.func13, Tryz.ntmps13
      go_wp2
      refine wp_region_planL [(0, true), (1, true), (2, true), (3, true), (4, true), (5, true), (6, true), (7, true), (8, true), (9, true), (10, true), (11, true)]
        [(12, fun w1 => w1.cell? ⟨b, 0, none⟩ = some (.string S) ∧ w1.cell? ⟨b, 1, none⟩ = some (.int .i64 at_))] (by kernel_rfl) (by kernel_rfl) (by intro c a d v w h; cases d <;> exact h) ?_ ?_
      · exact ⟨⟨c0, c1⟩, trivial⟩
      simp only [planOps, List.getElem?_cons_zero, List.getElem?_cons_succ]
      iterate 12 (first | ((apply plan_pure rfl; (intro w1; go_simp; try go_bits); with_reducible rfl); try simp only [Act.put, List.setIfInBounds_toArray, List.set_cons_zero, List.set_cons_succ]) | ((refine' plan_load 0 rfl (by kernel_rfl) rfl ?_ ?_; rotate_left; (intro w1 hw1; go_simp; with_reducible rfl)); try simp only [Act.put, List.setIfInBounds_toArray, List.set_cons_zero, List.set_cons_succ]))
      refine plan_nil ?_
      have g2 : W.drew.cell? ⟨b, 2, none⟩ = some (.int .i64 0) := c2
      go_wp2
      go_ret
      exact ⟨rfl, (HX.out.drew.setCell 2 (.int .i64 10))⟩
    · have hlt0 : at_ < S.size := by omega
      have hls : ¬ (left S at_).size < 8 := by rw [left_size]; omega
      have eN : rdN (left S at_) 0 8 = numAt (left S at_) 8 := by unfold rdN; rw [if_neg (by simp), if_neg hls]
      have eE : rdE (left S at_) 0 8 = 0 := by unfold rdE; rw [if_neg (by simp), if_neg hls]
      have eA : rfAt S at_ 0 8 = at_ + 8 := by unfold rfAt; rw [if_neg (by simp), if_neg hls]
      have hin : (at_ : Int) + 8 ≤ S.size := by omega
      have hb0 := byt_lt S at_
      have hb0l := left_byt S at_ 0 (by omega)
      rw [Nat.add_zero] at hb0l
      have htop := numAt_top (left S at_) 7
      rw [show 7 + 1 = 8 from rfl] at htop
      rw [hb0l] at htop
      have hbg0 := byt_get S hlt0
      obtain ⟨B0, hB0⟩ : ∃ B, byt S at_ = B := ⟨_, rfl⟩
      rw [hB0] at hb0 htop hbg0
      have HB0 := Lib.hid hB0
      have hat3 : (at_ : Int) < S.size := by omega
      have hat4 : 0 ≤ (at_ : Int) := by omega
      clear hB0
      by_cases htt : 127 < B0
      · have h9 : 9223372036854775808 ≤ rdN (left S at_) 0 8 := by rw [eN]; omega
        unfold r8N r8E
        rw [if_pos h9, if_pos h9, if_pos h9]
        clear h9 eN eE eA hls htop hb0l
        go_enter Tryz.func13, Tryz.ntmps13
        go_wp2
        refine wp_region_planL [(0, true), (1, true), (2, true), (3, true), (4, true), (5, true), (6, true), (7, true), (8, true), (9, true), (10, true), (11, true)]
          [(12, fun w1 => w1.cell? ⟨b, 0, none⟩ = some (.string S) ∧ w1.cell? ⟨b, 1, none⟩ = some (.int .i64 at_))] (by kernel_rfl) (by kernel_rfl) (by intro c a d v w h; cases d <;> exact h) ?_ ?_
        · exact ⟨⟨c0, c1⟩, trivial⟩
        simp only [planOps, List.getElem?_cons_zero, List.getElem?_cons_succ]
        iterate 12 (first | ((apply plan_pure rfl; (intro w1; go_simp; try go_bits); with_reducible rfl); try simp only [Act.put, List.setIfInBounds_toArray, List.set_cons_zero, List.set_cons_succ]) | ((refine' plan_load 0 rfl (by kernel_rfl) rfl ?_ ?_; rotate_left; (intro w1 hw1; go_simp; with_reducible rfl)); try simp only [Act.put, List.setIfInBounds_toArray, List.set_cons_zero, List.set_cons_succ]))
        refine plan_nil ?_
        have g0 : W.drew.drew.cell? ⟨b, 0, none⟩ = some (.string S) := c0
        have g1 : W.drew.drew.cell? ⟨b, 1, none⟩ = some (.int .i64 at_) := c1
        go_wp2
        refine wp_region_planL [(0, true), (1, true), (2, true), (3, true), (4, true), (5, true), (6, true), (7, true), (8, true), (9, true), (10, true), (11, true), (12, true), (13, true)]
          [(14, fun w1 => w1.cell? ⟨b, 0, none⟩ = some (.string S) ∧ w1.cell? ⟨b, 1, none⟩ = some (.int .i64 at_))] (by kernel_rfl) (by kernel_rfl) (by intro c a d v w h; cases d <;> exact h) ?_ ?_
        · exact ⟨⟨g0, g1⟩, trivial⟩
        simp only [planOps, List.getElem?_cons_zero, List.getElem?_cons_succ]
        iterate 14 (first | ((apply plan_pure rfl; (intro w1; go_simp; try go_bits); with_reducible rfl); try simp only [Act.put, List.setIfInBounds_toArray, List.set_cons_zero, List.set_cons_succ]) | ((refine' plan_load 0 rfl (by kernel_rfl) rfl ?_ ?_; rotate_left; (intro w1 hw1; go_simp; with_reducible rfl)); try simp only [Act.put, List.setIfInBounds_toArray, List.set_cons_zero, List.set_cons_succ]))
        refine plan_nil ?_
        clear g0 g1
        have g2 : W.drew.drew.cell? ⟨b, 2, none⟩ = some (.int .i64 0) := c2
        go_wp2
        go_ret
        exact ⟨rfl, HX.out.drew.drew.setCell 2 (.int .i64 3)⟩
      · have h9 : ¬ 9223372036854775808 ≤ rdN (left S at_) 0 8 := by rw [eN]; omega
        unfold r8N r8E
        rw [if_neg h9, if_neg h9, if_neg h9, eN, eE, eA]
        have hlow : ∀ j, j ≤ 7 → numAt (left S at_) j < 36028797018963968 := fun j hj => numAt_low (left S at_) (by rw [hb0l, HB0.out]; omega) j hj
        have HLOW := Lib.hid hlow
        clear eN eE eA h9 htop hb0l hlow
        have hlb : ∀ j, j < 8 → byt (left S at_) j = byt S (at_ + j) := fun j hj => left_byt S at_ j (by omega)
        have HLB := Lib.hid hlb
        clear hls hlb
        go_enter Tryz.func13, Tryz.ntmps13
        go_wp2
        refine wp_region_planL [(0, true), (1, true), (2, true), (3, true), (4, true), (5, true), (6, true), (7, true), (8, true), (9, true), (10, true), (11, true)]
          [(12, fun w1 => w1.cell? ⟨b, 0, none⟩ = some (.string S) ∧ w1.cell? ⟨b, 1, none⟩ = some (.int .i64 at_))] (by kernel_rfl) (by kernel_rfl) (by intro c a d v w h; cases d <;> exact h) ?_ ?_
        · exact ⟨⟨c0, c1⟩, trivial⟩
        simp only [planOps, List.getElem?_cons_zero, List.getElem?_cons_succ]
        iterate 12 (first | ((apply plan_pure rfl; (intro w1; go_simp; try go_bits); with_reducible rfl); try simp only [Act.put, List.setIfInBounds_toArray, List.set_cons_zero, List.set_cons_succ]) | ((refine' plan_load 0 rfl (by kernel_rfl) rfl ?_ ?_; rotate_left; (intro w1 hw1; go_simp; with_reducible rfl)); try simp only [Act.put, List.setIfInBounds_toArray, List.set_cons_zero, List.set_cons_succ]))
        refine plan_nil ?_
        have g0 : W.drew.drew.cell? ⟨b, 0, none⟩ = some (.string S) := c0
        have g1 : W.drew.drew.cell? ⟨b, 1, none⟩ = some (.int .i64 at_) := c1
        go_wp2
        refine wp_region_planL [(0, true), (1, true), (2, true), (3, true), (4, true), (5, true), (6, true), (7, true), (8, true), (9, true), (10, true), (11, true), (12, true), (13, true)]
          [(14, fun w1 => w1.cell? ⟨b, 0, none⟩ = some (.string S) ∧ w1.cell? ⟨b, 1, none⟩ = some (.int .i64 at_))] (by kernel_rfl) (by kernel_rfl) (by intro c a d v w h; cases d <;> exact h) ?_ ?_
        · exact ⟨⟨g0, g1⟩, trivial⟩
        simp only [planOps, List.getElem?_cons_zero, List.getElem?_cons_succ]
        iterate 14 (first | ((apply plan_pure rfl; (intro w1; go_simp; try go_bits); with_reducible rfl); try simp only [Act.put, List.setIfInBounds_toArray, List.set_cons_zero, List.set_cons_succ]) | ((refine' plan_load 0 rfl (by kernel_rfl) rfl ?_ ?_; rotate_left; (intro w1 hw1; go_simp; with_reducible rfl)); try simp only [Act.put, List.setIfInBounds_toArray, List.set_cons_zero, List.set_cons_succ]))
        refine plan_nil ?_
        clear g0 g1
        go_wp2
        go_loopw [5, 6] (fun v i wr => ∃ j : Nat, j ≤ 8 ∧ i = .int .i64 j ∧ v = .int .i64 (numAt (left S at_) j) ∧ Sat E wr (isRf b S at_ 0 :: L)) (fun _ i _ => 8 - (intOf i).toNat)
        case atStart => exact ⟨0, by omega, rfl, rfl, HX.out.drew.drew⟩
        case round =>
          clear c0 c1 c2 f1 f2
          obtain ⟨j, hj, rfl, rfl, hx⟩ := hrel
          by_cases hlt : j < 8
          · have hlb := HLB.out j hlt
            have hsucc : numAt (left S at_) (j + 1) = 256 * numAt (left S at_) j + byt (left S at_) j := rfl
            have hnl : numAt (left S at_) j < 36028797018963968 := HLOW.out j (by omega)
            have hbg := byt_get S (i := at_ + j) (by omega)
            rw [hlb] at hsucc
            have hb := byt_lt S (at_ + j)
            obtain ⟨B, hB⟩ : ∃ B, byt S (at_ + j) = B := ⟨_, rfl⟩
            obtain ⟨N, hN⟩ : ∃ N, numAt (left S at_) j = N := ⟨_, rfl⟩
            rw [hB] at hb hsucc hbg
            rw [hN] at hnl hsucc ⊢
            have g0 : wr.drew.cell? ⟨b, 0, none⟩ = some (.string S) := cell_blk hx.drew.at 0
            have g1 : wr.drew.cell? ⟨b, 1, none⟩ = some (.int .i64 at_) := cell_blk hx.drew.at 1
            have HXR := Lib.hid hx.drew
            have HS := Lib.hid hsucc
            have ht : ((at_ : Int) + (j : Int)).toNat = at_ + j := by omega
            have h0p : 0 ≤ (at_ : Int) + (j : Int) := by omega
            have h1p : (at_ : Int) + (j : Int) < S.size := by omega
            clear hx hB hN hsucc hlb
            go_wp2
            refine wp_region_planL [(0, true), (1, true), (2, true), (3, true), (4, true), (5, true), (6, true), (7, true), (8, true), (9, true), (10, true), (11, true), (12, true), (13, false), (14, true), (15, true)]
              [(16, fun w1 => w1.cell? ⟨b, 0, none⟩ = some (.string S) ∧ w1.cell? ⟨b, 1, none⟩ = some (.int .i64 at_))] (by kernel_rfl) (by kernel_rfl) (by intro c a d v w h; cases d <;> exact h) ?_ ?_
            · exact ⟨⟨g0, g1⟩, trivial⟩
            simp only [planOps, List.getElem?_cons_zero, List.getElem?_cons_succ]
            iterate 13 (first | ((apply plan_pure rfl; (intro w1; go_simp; try go_bits); with_reducible rfl); try simp only [Act.put, List.setIfInBounds_toArray, List.set_cons_zero, List.set_cons_succ]) | ((refine' plan_load 0 rfl (by kernel_rfl) rfl ?_ ?_; rotate_left; (intro w1 hw1; go_simp; with_reducible rfl)); try simp only [Act.put, List.setIfInBounds_toArray, List.set_cons_zero, List.set_cons_succ]))
            refine plan_loud rfl (fun K hK => ?_); go_simp
            refine hK _ _ ⟨⟨g0, g1⟩, trivial⟩ ?_
            clear hK K
            try simp only [Act.put, List.setIfInBounds_toArray, List.set_cons_zero, List.set_cons_succ]
            iterate 2 (first | ((apply plan_pure rfl; (intro w1; go_simp; try go_bits); with_reducible rfl); try simp only [Act.put, List.setIfInBounds_toArray, List.set_cons_zero, List.set_cons_succ]) | ((refine' plan_load 0 rfl (by kernel_rfl) rfl ?_ ?_; rotate_left; (intro w1 hw1; go_simp; with_reducible rfl)); try simp only [Act.put, List.setIfInBounds_toArray, List.set_cons_zero, List.set_cons_succ]))
            refine plan_nil ?_
            go_wp2
            refine ⟨⟨j + 1, by omega, by go_num, ?_, HXR.out⟩, by simp [intOf]; omega⟩
            rw [HS.out]; simp
          · obtain rfl : j = 8 := by omega
            have g1 := cell_blk hx.at 1
            have k1 := frozen_blk hx.at 1
            have HXR := Lib.hid (hx.setCell 1 (.int .i64 ((at_ : Int) + 8)))
            clear hx
            go_wp2
            go_ret
            exact ⟨rfl, HXR.out⟩
  · have eN : rdN (left S at_) err 8 = 0 := by unfold rdN; rw [if_pos he]
    have eE : rdE (left S at_) err 8 = err := by unfold rdE; rw [if_pos he]
    have eA : rfAt S at_ err 8 = at_ := by unfold rfAt; rw [if_pos he]
    have h9 : ¬ 9223372036854775808 ≤ rdN (left S at_) err 8 := by rw [eN]; omega
    unfold r8N r8E
    rw [if_neg h9, if_neg h9, if_neg h9, eN, eE, eA]
    clear h9
    clear eN eE eA
    have hb : (err != 0) = true := by simp [he]
    go_enter Tryz.func13, Tryz.ntmps13
    go_wp2
    go_ret
    exact ⟨rfl, HX.out⟩
end Go.Proofs.YtodjdcdbmbmbmaaGreatDoor
