/-
  The document's reader of numbers, walked: it answers as posthouse/xdr's.
-/
import Derived.Test.YtodjdcdbmbmbmaaGreatDoorXdrR
namespace Go.Proofs.YtodjdcdbmbmbmaaGreatDoor
open Go.RowKit PH

/-- The document's reader at block b: its text, its place, its error. -/
def isRf (b : Nat) (S : ByteArray) (at_ : Nat) (err : Int) : HP := pt b (.cells #[.string S, .int .i64 at_, .int .i64 err] 43)
/-- What is left of its text. -/
def left (S : ByteArray) (at_ : Nat) : ByteArray := S.extract at_ S.size
theorem byt_get (s : ByteArray) {i : Nat} (h : i < s.size) : (s[i]).toNat = byt s i := by unfold byt; rw [dif_pos h]
theorem left_size (S : ByteArray) (a : Nat) : (left S a).size = S.size - a := by unfold left; rw [ByteArray.size_extract]; omega
theorem left_byt (S : ByteArray) (a i : Nat) (h : a + i < S.size) : byt (left S a) i = byt S (a + i) := byt_extract S a S.size i (Nat.le_refl _) h
def rfAt (S : ByteArray) (at_ : Nat) (err : Int) (k : Nat) : Nat := if err ≠ 0 then at_ else if (left S at_).size < k then at_ else at_ + k
theorem left_left (S : ByteArray) (a k : Nat) (h : a + k ≤ S.size) : left S (a + k) = (left S a).extract k (left S a).size := by
  apply ByteArray.ext_getElem
  · rw [left_size, ByteArray.size_extract, left_size]; omega
  · intro i h1 h2
    have e1 := left_byt S (a + k) i (by rw [left_size] at h1; omega)
    have e2 := byt_extract (left S a) k (left S a).size i (Nat.le_refl _) (by rw [left_size] at h1 ⊢; omega)
    rw [left_byt S a (k + i) (by rw [left_size] at h1; omega)] at e2
    have e3 : byt (left S (a + k)) i = byt ((left S a).extract k (left S a).size) i := by rw [e1, e2, Nat.add_assoc]
    unfold byt at e3
    rw [dif_pos h1, dif_pos h2] at e3
    exact UInt8.toNat_inj.1 e3
theorem rfAt_left {S : ByteArray} {at_ k : Nat} {err : Int} (h : rdE (left S at_) err k = 0) : left S (rfAt S at_ err k) = rdS (left S at_) err k := by
  unfold rdE at h
  unfold rfAt rdS
  split at h
  · rename_i he; exact absurd h he
  · rename_i he
    split at h
    · cases h
    · rename_i hk
      rw [if_neg he, if_neg hk, if_neg he, if_neg hk]
      rw [left_size] at hk
      by_cases hs : at_ + k ≤ S.size
      · exact left_left S at_ k hs
      · have hk0 : k = 0 := by omega
        subst hk0
        rw [Nat.add_zero, ByteArray.extract_zero_size]

set_option maxRecDepth 100000 in
set_option maxHeartbeats 1600000 in
theorem refU4_ok {E W : World} {L : List HP} {b at_ : Nat} {S : ByteArray} {err : Int} (x : Sat E W (isRf b S at_ err :: L)) (hat : at_ ≤ S.size) (hs : S.size ≤ 9223372036854775000) :
    Calls Tryz.prog 13 #[.pointer (some ⟨b, 0, none⟩), .int .i64 4] W fun e w' => e = .returned (.int .i64 (rdN (left S at_) err 4)) ∧ Sat E w' (isRf b S (rfAt S at_ err 4) (rdE (left S at_) err 4) :: L) := by
  have c0 := cell_blk x.at 0
  have c1 := cell_blk x.at 1
  have c2 := cell_blk x.at 2
  have f1 := frozen_blk x.at 1
  have f2 := frozen_blk x.at 2
  have HX := Lib.hid x
  clear x
  by_cases he : err = 0
  · subst he
    by_cases hsz : S.size < at_ + 4
    · have hls : (left S at_).size < 4 := by rw [left_size]; omega
      have eN : rdN (left S at_) 0 4 = 0 := by unfold rdN; rw [if_neg (by simp), if_pos hls]
      have eE : rdE (left S at_) 0 4 = 10 := by unfold rdE; rw [if_neg (by simp), if_pos hls]
      have eA : rfAt S at_ 0 4 = at_ := by unfold rfAt; rw [if_neg (by simp), if_pos hls]
      rw [eN, eE, eA]
      have HX2 := Lib.hid (HX.out.setCell 2 (.int .i64 10))
      clear eN eE eA hls
      go_enter Tryz.func13, Tryz.ntmps13
      go_wp2
      refine wp_region_planL [(0, true), (1, true), (2, true), (3, true), (4, true), (5, true), (6, true), (7, true), (8, true), (9, true), (10, true), (11, true)]
        [(12, fun w1 => w1.cell? ⟨b, 0, none⟩ = some (.string S) ∧ w1.cell? ⟨b, 1, none⟩ = some (.int .i64 at_))] (by kernel_rfl) (by kernel_rfl) (by intro c a d v w h; cases d <;> exact h) ?_ ?_
      · exact ⟨⟨c0, c1⟩, trivial⟩
      simp only [planOps, List.getElem?_cons_zero, List.getElem?_cons_succ]
      iterate 12 (first | ((apply plan_pure rfl; (intro w1; go_simp; try go_bits); with_reducible rfl); try simp only [Act.put, List.setIfInBounds_toArray, List.set_cons_zero, List.set_cons_succ]) | ((refine' plan_load 0 rfl (by kernel_rfl) rfl ?_ ?_; rotate_left; (intro w1 hw1; go_simp; with_reducible rfl)); try simp only [Act.put, List.setIfInBounds_toArray, List.set_cons_zero, List.set_cons_succ]))
      refine plan_nil ?_
      have g2 : W.drew.cell? ⟨b, 2, none⟩ = some (.int .i64 0) := c2
      go_wp2
      go_ret
      exact ⟨rfl, (HX.out.drew.setCell 2 (.int .i64 10))⟩
    · have hls : ¬ (left S at_).size < 4 := by rw [left_size]; omega
      have eN : rdN (left S at_) 0 4 = numAt (left S at_) 4 := by unfold rdN; rw [if_neg (by simp), if_neg hls]
      have eE : rdE (left S at_) 0 4 = 0 := by unfold rdE; rw [if_neg (by simp), if_neg hls]
      have eA : rfAt S at_ 0 4 = at_ + 4 := by unfold rfAt; rw [if_neg (by simp), if_neg hls]
      rw [eN, eE, eA]
      clear eN eE eA
      have hlb : ∀ j, j < 4 → byt (left S at_) j = byt S (at_ + j) := fun j hj => left_byt S at_ j (by omega)
      have HLB := Lib.hid hlb
      have hin : (at_ : Int) + 4 ≤ S.size := by omega
      clear hls hlb
      go_enter Tryz.func13, Tryz.ntmps13
      go_wp2
      refine wp_region_planL [(0, true), (1, true), (2, true), (3, true), (4, true), (5, true), (6, true), (7, true), (8, true), (9, true), (10, true), (11, true)]
        [(12, fun w1 => w1.cell? ⟨b, 0, none⟩ = some (.string S) ∧ w1.cell? ⟨b, 1, none⟩ = some (.int .i64 at_))] (by kernel_rfl) (by kernel_rfl) (by intro c a d v w h; cases d <;> exact h) ?_ ?_
      · exact ⟨⟨c0, c1⟩, trivial⟩
      simp only [planOps, List.getElem?_cons_zero, List.getElem?_cons_succ]
      iterate 12 (first | ((apply plan_pure rfl; (intro w1; go_simp; try go_bits); with_reducible rfl); try simp only [Act.put, List.setIfInBounds_toArray, List.set_cons_zero, List.set_cons_succ]) | ((refine' plan_load 0 rfl (by kernel_rfl) rfl ?_ ?_; rotate_left; (intro w1 hw1; go_simp; with_reducible rfl)); try simp only [Act.put, List.setIfInBounds_toArray, List.set_cons_zero, List.set_cons_succ]))
      refine plan_nil ?_
      have g0 : W.drew.drew.cell? ⟨b, 0, none⟩ = some (.string S) := c0
      have g1 : W.drew.drew.cell? ⟨b, 1, none⟩ = some (.int .i64 at_) := c1
      go_wp2
      refine wp_region_planL [(0, true), (1, true), (2, true), (3, true), (4, true), (5, true), (6, true), (7, true), (8, true), (9, true), (10, true), (11, true), (12, true), (13, true)]
        [(14, fun w1 => w1.cell? ⟨b, 0, none⟩ = some (.string S) ∧ w1.cell? ⟨b, 1, none⟩ = some (.int .i64 at_))] (by kernel_rfl) (by kernel_rfl) (by intro c a d v w h; cases d <;> exact h) ?_ ?_
      · exact ⟨⟨g0, g1⟩, trivial⟩
      simp only [planOps, List.getElem?_cons_zero, List.getElem?_cons_succ]
      iterate 14 (first | (apply plan_skip rfl; try simp only [Act.put, List.setIfInBounds_toArray, List.set_cons_zero, List.set_cons_succ]) | ((apply plan_pure rfl; (intro w1; go_simp; try go_bits); with_reducible rfl); try simp only [Act.put, List.setIfInBounds_toArray, List.set_cons_zero, List.set_cons_succ]) | ((refine' plan_load 0 rfl (by kernel_rfl) rfl ?_ ?_; rotate_left; (intro w1 hw1; go_simp; with_reducible rfl)); try simp only [Act.put, List.setIfInBounds_toArray, List.set_cons_zero, List.set_cons_succ]))
      refine plan_nil ?_
      clear g0 g1
      go_wp2
      go_loopw [5, 6] (fun v i wr => ∃ j : Nat, j ≤ 4 ∧ i = .int .i64 j ∧ v = .int .i64 (numAt (left S at_) j) ∧ Sat E wr (isRf b S at_ 0 :: L)) (fun _ i _ => 4 - (intOf i).toNat)
      case atStart => exact ⟨0, by omega, rfl, rfl, HX.out.drew.drew⟩
      case round =>
        clear c0 c1 c2 f1 f2
        obtain ⟨j, hj, rfl, rfl, hx⟩ := hrel
        by_cases hlt : j < 4
        · have hlb := HLB.out j hlt
          have hsucc : numAt (left S at_) (j + 1) = 256 * numAt (left S at_) j + byt (left S at_) j := rfl
          have hn := numAt_lt (left S at_) j
          have hnl : numAt (left S at_) j < 16777216 := Nat.lt_of_lt_of_le hn (Nat.pow_le_pow_right (n := 256) (by omega) (show j ≤ 3 by omega))
          have hbg := byt_get S (i := at_ + j) (by omega)
          rw [hlb] at hsucc
          have hb := byt_lt S (at_ + j)
          obtain ⟨B, hB⟩ : ∃ B, byt S (at_ + j) = B := ⟨_, rfl⟩
          obtain ⟨N, hN⟩ : ∃ N, numAt (left S at_) j = N := ⟨_, rfl⟩
          rw [hB] at hb hsucc hbg
          rw [hN] at hnl hsucc ⊢
          have g0 : wr.drew.cell? ⟨b, 0, none⟩ = some (.string S) := cell_blk hx.drew.at 0
          have g1 : wr.drew.cell? ⟨b, 1, none⟩ = some (.int .i64 at_) := cell_blk hx.drew.at 1
          have HXR := Lib.hid hx.drew
          have HS := Lib.hid hsucc
          have ht : ((at_ : Int) + (j : Int)).toNat = at_ + j := by omega
          have h0p : 0 ≤ (at_ : Int) + (j : Int) := by omega
          have h1p : (at_ : Int) + (j : Int) < S.size := by omega
          clear hx hB hN hsucc hn hlb
          go_wp2
          refine wp_region_planL [(0, true), (1, true), (2, true), (3, true), (4, true), (5, true), (6, true), (7, true), (8, true), (9, true), (10, true), (11, true), (12, true), (13, false), (14, true), (15, true)]
            [(16, fun w1 => w1.cell? ⟨b, 0, none⟩ = some (.string S) ∧ w1.cell? ⟨b, 1, none⟩ = some (.int .i64 at_))] (by kernel_rfl) (by kernel_rfl) (by intro c a d v w h; cases d <;> exact h) ?_ ?_
          · exact ⟨⟨g0, g1⟩, trivial⟩
          simp only [planOps, List.getElem?_cons_zero, List.getElem?_cons_succ]
          iterate 13 (first | ((apply plan_pure rfl; (intro w1; go_simp; try go_bits); with_reducible rfl); try simp only [Act.put, List.setIfInBounds_toArray, List.set_cons_zero, List.set_cons_succ]) | ((refine' plan_load 0 rfl (by kernel_rfl) rfl ?_ ?_; rotate_left; (intro w1 hw1; go_simp; with_reducible rfl)); try simp only [Act.put, List.setIfInBounds_toArray, List.set_cons_zero, List.set_cons_succ]))
          refine plan_loud rfl (fun K hK => ?_); go_simp
          refine hK _ _ ⟨⟨g0, g1⟩, trivial⟩ ?_
          clear hK K
          try simp only [Act.put, List.setIfInBounds_toArray, List.set_cons_zero, List.set_cons_succ]
          iterate 2 (first | ((apply plan_pure rfl; (intro w1; go_simp; try go_bits); with_reducible rfl); try simp only [Act.put, List.setIfInBounds_toArray, List.set_cons_zero, List.set_cons_succ]) | ((refine' plan_load 0 rfl (by kernel_rfl) rfl ?_ ?_; rotate_left; (intro w1 hw1; go_simp; with_reducible rfl)); try simp only [Act.put, List.setIfInBounds_toArray, List.set_cons_zero, List.set_cons_succ]))
          refine plan_nil ?_
          go_wp2
          refine ⟨⟨j + 1, by omega, by go_num, ?_, HXR.out⟩, by simp [intOf]; omega⟩
          rw [HS.out]; simp
        · obtain rfl : j = 4 := by omega
          have g1 := cell_blk hx.at 1
          have k1 := frozen_blk hx.at 1
          have HXR := Lib.hid (hx.setCell 1 (.int .i64 ((at_ : Int) + 4)))
          clear hx
          go_wp2
          go_ret
          exact ⟨rfl, HXR.out⟩
  · have eN : rdN (left S at_) err 4 = 0 := by unfold rdN; rw [if_pos he]
    have eE : rdE (left S at_) err 4 = err := by unfold rdE; rw [if_pos he]
    have eA : rfAt S at_ err 4 = at_ := by unfold rfAt; rw [if_pos he]
    rw [eN, eE, eA]
    clear eN eE eA
    have hb : (err != 0) = true := by simp [he]
    go_enter Tryz.func13, Tryz.ntmps13
    go_wp2
    go_ret
    exact ⟨rfl, HX.out⟩
end Go.Proofs.YtodjdcdbmbmbmaaGreatDoor
