/-
  posthouse/head: Find on a disk, walked.
-/
import Derived.Test.YtmkpglabiikdeaaGreatHeadU
import Derived.Test.YtmkpglabiikdeaaGreatDiskI
import Derived.Test.YtmkpglabiikdeaaGreatDiskZ
namespace Go.Proofs.YtmkpglabiikdeaaGreat
open Go.RowKit PH

theorem getV_step (b : Hd) (s : ByteArray) : stepH b (getP s) = if getE s = 0 ∧ b.gen < (getV s).gen then getV s else b := by
  unfold stepH getE getV
  cases getP s with
  | none => exact (if_neg (by intro h; exact absurd h.1 (by decide))).symm
  | some h => simp
/-- The younger one behind k sectors. -/
def bst (D : Dk) (at_ : Int) : Nat → Hd
  | 0 => noHd
  | k + 1 => stepH (bst D at_ k) (getP (readV D (at_ + k)))
theorem bst_two (D : Dk) (at_ : Int) : bst D at_ 2 = bestH D at_ := by
  unfold bst bst bst bestH
  simp

def cells7 (a b c d e f g : Int) : Array Value := #[.int .i64 a, .int .i64 b, .int .i64 c, .int .i64 d, .int .i64 e, .int .i64 f, .int .i64 g]
/-- A head is stored over a head. -/
theorem wpList_store_hd {E w : World} {L : List HP} {ops : Array Oper} {rest : List Oper} {op : Oper} {a : Act} {Q : Exit → Act → World → Prop} {q : Nat} {U : Hd} (S : Sat E w (pt q (.cells U.cells 33) :: L)) (V : Hd)
    (hop : op.guard = none ∧ ∃ x y : Operand, op.op = .store 33 x y ∧ a.eval x = .pointer (some ⟨q, 0, none⟩) ∧ a.eval y = .agg #[.int .i64 V.gen, .int .i64 V.epoch, .int .i64 V.since, .int .i64 V.area, .int .i64 V.size, .int .i64 V.next, .int .i64 V.pos])
    (h : ∀ w', Sat E w' (pt q (.cells V.cells 33) :: L) → wpList Tryz.prog ops Q rest (a.put op.dst undef) w') : wpList Tryz.prog ops Q (op :: rest) a w :=
  by
  obtain ⟨hgd, x, y, ho, hx, hy⟩ := hop
  exact wpList_store_mid hgd 33 x y ho q 0 V.cells hx hy (pt_there S rfl) info85 (hd_one V) (h _ (setCells_all (C := V.cells) S rfl))

set_option maxRecDepth 100000 in
set_option maxHeartbeats 3200000 in
theorem find_ok {E W : World} {L : List HP} {b : Nat} {D : Dk} (x : Sat E W (isDisk b D :: L)) (ok : OkD D) (at_ : Int) (h0 : -1000 ≤ at_) (h1 : at_ ≤ 1000) (hR : ∀ i, (readV D i).size ≤ 9223372036854775807) :
    Calls Tryz.prog 14 #[.pointer (some ⟨b, 0, none⟩), .int .i64 at_] W fun e w' => e = .returned (.tuple #[.agg (findR D at_).1.cells, .int .i64 (findR D at_).2]) ∧ Sat E w' (isDisk b D :: L) := by
  have hx1 := zx x
  obtain ⟨q, hq⟩ : ∃ q, W.heap.size = q := ⟨_, rfl⟩
  rw [hq] at hx1
  have hx2 := zx hx1
  rw [World.size_alloc, hq] at hx2
  obtain ⟨q2, hq2⟩ : ∃ q2, q + 1 = q2 := ⟨_, rfl⟩
  rw [hq2] at hx2
  have HX1 := Lib.hid hx2.p2
  have HR := Lib.hid hR
  obtain ⟨FH, hFH⟩ : ∃ F, (findR D at_).1 = F := ⟨_, rfl⟩
  obtain ⟨FE, hFE⟩ : ∃ F, (findR D at_).2 = F := ⟨_, rfl⟩
  rw [hFH, hFE]
  have HFH := Lib.hid hFH
  have HFE := Lib.hid hFE
  clear hx1 hx2 x hR hFH hFE
  go_enter Tryz.func14, Tryz.ntmps14
  go_wp2
  go_loopw [12] (fun i wr => ∃ k : Nat, k ≤ 2 ∧ i = .int .i64 k ∧ Hid (∀ j : Nat, j < k → thereE D (at_ + j) = 0) ∧ Sat E wr (isDisk b D :: pt q2 (.cells (bst D at_ k).cells 33) :: pt q (.cells noHd.cells 33) :: L)) (fun i _ => 2 - (intOf i).toNat)
  case atStart => exact ⟨0, by omega, rfl, Lib.hid (fun j hj => by omega), HX1.out⟩
  case round =>
    obtain ⟨k, hk, rfl, hall, hx⟩ := hrel
    by_cases hk2 : k < 2
    · have hki : (k : Int) < 2 := by omega
      by_cases ht : thereE D (at_ + k) = 0
      · have hsz := HR.out (at_ + k)
        have hst := getV_step (bst D at_ k) (readV D (at_ + k))
        rw [show stepH (bst D at_ k) (getP (readV D (at_ + k))) = bst D at_ (k + 1) from rfl] at hst
        have HRD := Lib.hid (read_yes hx ok (at_ + k) ht)
        obtain ⟨S, hS⟩ : ∃ S, readV D (at_ + k) = S := ⟨_, rfl⟩
        rw [hS] at HRD hsz hst
        obtain ⟨B, hB⟩ : ∃ B, bst D at_ k = B := ⟨_, rfl⟩
        rw [hB] at HRD hx hst
        obtain ⟨V, hV⟩ : ∃ V, getV S = V := ⟨_, rfl⟩
        obtain ⟨Ee, hEe⟩ : ∃ e, getE S = e := ⟨_, rfl⟩
        rw [hV, hEe] at hst
        obtain ⟨v0, v1, v2, v3, v4, v5, v6⟩ := V
        obtain ⟨u0, u1, u2, u3, u4, u5, u6⟩ := B
        have HV := Lib.hid hV
        have HEE := Lib.hid hEe
        have HST := Lib.hid hst
        have HT := Lib.hid ht
        clear hV hEe hst hx hS hB ht
        by_cases he : Ee = 0
        · subst he
          by_cases hg : u0 < v0
          · go_wp2_with (first
              | (go_at_call 34; with_reducible refine HRD.out.mono ?_; rintro e3 w3 ⟨rfl, hx3⟩; have HX3 := Lib.hid hx3; clear hx3)
              | (go_at_call 35; with_reducible refine (headGet_ok HX3.out S hsz).mono ?_; rintro e4 w4 ⟨rfl, hx4⟩; rw [HV.out, HEE.out]; obtain ⟨p, hp⟩ : ∃ p, w4.heap.size = p := ⟨_, rfl⟩; have HX4 := Lib.hid (zx hx4); rw [hp] at HX4; clear hx4)
              | (with_reducible refine wpList_store_hd (HX4.out) (⟨v0, v1, v2, v3, v4, v5, v6⟩) ?_ ?_; exact ⟨rfl, _, _, rfl, rfl, rfl⟩
                 intro w5 hx5
                 obtain ⟨d0, d1, d2, d3, d4, d5, d6⟩ := hd7 hx5
                 obtain ⟨b0, -⟩ := hd7 hx5.p2
                 have HX5 := Lib.hid hx5
                 clear hx5 HX4)
              | (with_reducible refine wpList_store_hd (HX5.out.p2) (⟨v0, v1, v2, v3, v4, v5, v6⟩) ?_ ?_; exact ⟨rfl, _, _, rfl, rfl, rfl⟩
                 intro w6 hx6
                 have HX6 := Lib.hid hx6
                 clear hx6 HX5))
            refine ⟨⟨k + 1, by omega, by go_num, ?_, ?_⟩, by simp [intOf]; omega⟩
            · refine Lib.hid (fun j hj => ?_)
              by_cases hjk : j = k
              · subst hjk; exact HT.out
              · exact hall.out j (by omega)
            · rw [HST.out]
              rw [if_pos (by simpa using hg)]; exact HX6.out.p1.tail.p1
          · go_wp2_with (first
              | (go_at_call 34; with_reducible refine HRD.out.mono ?_; rintro e3 w3 ⟨rfl, hx3⟩; have HX3 := Lib.hid hx3; clear hx3)
              | (go_at_call 35; with_reducible refine (headGet_ok HX3.out S hsz).mono ?_; rintro e4 w4 ⟨rfl, hx4⟩; rw [HV.out, HEE.out]; obtain ⟨p, hp⟩ : ∃ p, w4.heap.size = p := ⟨_, rfl⟩; have HX4 := Lib.hid (zx hx4); rw [hp] at HX4; clear hx4)
              | (with_reducible refine wpList_store_hd (HX4.out) (⟨v0, v1, v2, v3, v4, v5, v6⟩) ?_ ?_; exact ⟨rfl, _, _, rfl, rfl, rfl⟩
                 intro w5 hx5
                 obtain ⟨d0, d1, d2, d3, d4, d5, d6⟩ := hd7 hx5
                 obtain ⟨b0, -⟩ := hd7 hx5.p2
                 have HX5 := Lib.hid hx5
                 clear hx5 HX4)
              | (with_reducible refine wpList_store_hd (HX5.out.p2) (⟨v0, v1, v2, v3, v4, v5, v6⟩) ?_ ?_; exact ⟨rfl, _, _, rfl, rfl, rfl⟩
                 intro w6 hx6
                 have HX6 := Lib.hid hx6
                 clear hx6 HX5))
            refine ⟨⟨k + 1, by omega, by go_num, ?_, ?_⟩, by simp [intOf]; omega⟩
            · refine Lib.hid (fun j hj => ?_)
              by_cases hjk : j = k
              · subst hjk; exact HT.out
              · exact hall.out j (by omega)
            · rw [HST.out]
              rw [if_neg (by simp; omega)]; exact HX5.out.tail
        · have heb : (Ee == 0) = false := beq_eq_false_iff_ne.2 he
          go_wp2_with (first
            | (go_at_call 34; with_reducible refine HRD.out.mono ?_; rintro e3 w3 ⟨rfl, hx3⟩; have HX3 := Lib.hid hx3; clear hx3)
            | (go_at_call 35; with_reducible refine (headGet_ok HX3.out S hsz).mono ?_; rintro e4 w4 ⟨rfl, hx4⟩; rw [HV.out, HEE.out]; obtain ⟨p, hp⟩ : ∃ p, w4.heap.size = p := ⟨_, rfl⟩; have HX4 := Lib.hid (zx hx4); rw [hp] at HX4; clear hx4)
            | (with_reducible refine wpList_store_hd (HX4.out) (⟨v0, v1, v2, v3, v4, v5, v6⟩) ?_ ?_; exact ⟨rfl, _, _, rfl, rfl, rfl⟩
               intro w5 hx5
               obtain ⟨d0, d1, d2, d3, d4, d5, d6⟩ := hd7 hx5
               obtain ⟨b0, -⟩ := hd7 hx5.p2
               have HX5 := Lib.hid hx5
               clear hx5 HX4)
            | (with_reducible refine wpList_store_hd (HX5.out.p2) (⟨v0, v1, v2, v3, v4, v5, v6⟩) ?_ ?_; exact ⟨rfl, _, _, rfl, rfl, rfl⟩
               intro w6 hx6
               have HX6 := Lib.hid hx6
               clear hx6 HX5))
          refine ⟨⟨k + 1, by omega, by go_num, ?_, ?_⟩, by simp [intOf]; omega⟩
          · refine Lib.hid (fun j hj => ?_)
            by_cases hjk : j = k
            · subst hjk; exact HT.out
            · exact hall.out j (by omega)
          · rw [HST.out]
            rw [if_neg (by simp [he])]; exact HX5.out.tail
      · have htb : (thereE D (at_ + k) != 0) = true := by simp [ht]
        have HRD := Lib.hid (read_no hx (at_ + k) ht)
        have hfin : FH = noHd ∧ FE = thereE D (at_ + k) := by
          rw [← HFH.out, ← HFE.out]
          have hk01 : k = 0 ∨ k = 1 := by omega
          rcases hk01 with rfl | rfl
          · have e0 : at_ + ((0 : Nat) : Int) = at_ := by omega
            rw [e0] at ht ⊢
            unfold findR
            rw [if_neg ht]
            exact ⟨rfl, rfl⟩
          · have t0 := hall.out 0 (by omega)
            have e0 : at_ + ((0 : Nat) : Int) = at_ := by omega
            have e1 : at_ + ((1 : Nat) : Int) = at_ + 1 := by omega
            rw [e0] at t0
            rw [e1] at ht ⊢
            unfold findR
            rw [if_pos t0, if_neg ht]
            exact ⟨rfl, rfl⟩
        obtain ⟨t, htt⟩ : ∃ t, thereE D (at_ + k) = t := ⟨_, rfl⟩
        rw [htt] at htb HRD hfin
        clear ht htt hx
        go_wp2_with (first
          | (go_at_call 34; with_reducible refine HRD.out.mono ?_; rintro e3 w3 ⟨rfl, hx3⟩; have HX3 := Lib.hid hx3; clear hx3)
          | (with_reducible refine wpList_store_hd (HX3.out.p2) (noHd) ?_ ?_; exact ⟨rfl, _, _, rfl, rfl, rfl⟩
             intro w4 hx4
             have hlf := load_hd hx4
             have HX4 := Lib.hid hx4
             clear hx4 HX3))
        obtain ⟨rfl, rfl⟩ := hfin
        refine bodyPost_ret (v := .tuple #[.agg noHd.cells, .int .i64 FE]) ?_ rfl ⟨rfl, HX4.out.tail.p1.tail⟩
        rw [results_cell_tmp rfl]
        simp only [asAddr, Array.getD_eq_getD_getElem?, List.getElem?_toArray, List.getElem?_cons_succ, List.getElem?_cons_zero, Option.getD_some, Sem.run_pure, Result.andThen_ok, hlf]
    · obtain rfl : k = 2 := by omega
      have t0 := hall.out 0 (by omega)
      have t1 := hall.out 1 (by omega)
      rw [show at_ + ((0 : Nat) : Int) = at_ by omega] at t0
      rw [show at_ + ((1 : Nat) : Int) = at_ + 1 by omega] at t1
      have hfin : FH = bestH D at_ ∧ FE = findE (bestH D at_) := by
        rw [← HFH.out, ← HFE.out]
        unfold findR
        rw [if_pos t0, if_pos t1]
        exact ⟨rfl, rfl⟩
      rw [bst_two] at hx
      obtain ⟨B, hB⟩ : ∃ B, bestH D at_ = B := ⟨_, rfl⟩
      rw [hB] at hfin hx
      obtain ⟨u0, u1, u2, u3, u4, u5, u6⟩ := B
      obtain ⟨d0, d1, d2, d3, d4, d5, d6⟩ := hd7 hx.p1
      have HX := Lib.hid hx
      clear hx t0 t1 hB
      unfold findE at hfin
      dsimp only at hfin
      by_cases hu : u0 = 0
      · subst hu
        rw [if_pos rfl] at hfin
        obtain ⟨rfl, rfl⟩ := hfin
        go_wp2_with (
           with_reducible refine wpList_store_hd (HX.out.p2) (⟨0, u1, u2, u3, u4, u5, u6⟩) ?_ ?_; exact ⟨rfl, _, _, rfl, rfl, rfl⟩
           intro w4 hx4
           have hlf := load_hd hx4
           have HX4 := Lib.hid hx4
           clear hx4 HX)
        refine bodyPost_ret (v := .tuple #[.agg (Hd.cells ⟨0, u1, u2, u3, u4, u5, u6⟩), .int .i64 32]) ?_ rfl ⟨rfl, HX4.out.tail.p1.tail⟩
        rw [results_cell_tmp rfl]
        simp only [asAddr, Array.getD_eq_getD_getElem?, List.getElem?_toArray, List.getElem?_cons_succ, List.getElem?_cons_zero, Option.getD_some, Sem.run_pure, Result.andThen_ok, hlf]
      · have hub : (u0 == 0) = false := beq_eq_false_iff_ne.2 hu
        rw [if_neg hu] at hfin
        obtain ⟨rfl, rfl⟩ := hfin
        go_wp2_with (
           with_reducible refine wpList_store_hd (HX.out.p2) (⟨u0, u1, u2, u3, u4, u5, u6⟩) ?_ ?_; exact ⟨rfl, _, _, rfl, rfl, rfl⟩
           intro w4 hx4
           have hlf := load_hd hx4
           have HX4 := Lib.hid hx4
           clear hx4 HX)
        refine bodyPost_ret (v := .tuple #[.agg (Hd.cells ⟨u0, u1, u2, u3, u4, u5, u6⟩), .int .i64 0]) ?_ rfl ⟨rfl, HX4.out.tail.p1.tail⟩
        rw [results_cell_tmp rfl]
        simp only [asAddr, Array.getD_eq_getD_getElem?, List.getElem?_toArray, List.getElem?_cons_succ, List.getElem?_cons_zero, Option.getD_some, Sem.run_pure, Result.andThen_ok, hlf]
end Go.Proofs.YtmkpglabiikdeaaGreat

