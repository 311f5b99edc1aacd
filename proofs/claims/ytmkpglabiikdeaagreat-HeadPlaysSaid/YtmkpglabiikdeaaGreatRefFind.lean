/-
  The document's Find on a disk, walked.
-/
import Derived.Test.YtmkpglabiikdeaaGreatPlaysP
import Derived.Test.YtmkpglabiikdeaaGreatHeadW
namespace Go.Proofs.YtmkpglabiikdeaaGreat
open Go.RowKit PH

/-- Of two sectors' bytes: the head that the document finds. -/
def pickH (s t : ByteArray) : Hd := if (getP t).isSome = true ∧ ((getP s).isSome = false ∨ (getV s).gen < (getV t).gen) then getV t else if (getP s).isSome = true then getV s else noHd
theorem pick_best {D : Dk} {at_ : Int} (h0 : thereE D at_ = 0) (h1 : thereE D (at_ + 1) = 0) :
    findR D at_ = (pickH (readV D at_) (readV D (at_ + 1)), if (getP (readV D at_)).isSome = true ∨ (getP (readV D (at_ + 1))).isSome = true then 0 else 32) := by
  unfold findR
  rw [if_pos h0, if_pos h1]
  unfold bestH pickH getV
  have g0 : ∀ {s : ByteArray} {h : Hd}, getP s = some h → 1 ≤ h.gen := fun h => ok_gen (getP_some h).2.2.1
  cases e1 : getP (readV D at_) with
  | none =>
    cases e2 : getP (readV D (at_ + 1)) with
    | none => simp [stepH, findE, noHd]
    | some y =>
      have y1 := g0 e2
      have : noHd.gen < y.gen := by show (0 : Int) < _; omega
      simp [stepH, findE, this]
      omega
  | some x =>
    have x1 := g0 e1
    have : noHd.gen < x.gen := by show (0 : Int) < _; omega
    cases e2 : getP (readV D (at_ + 1)) with
    | none =>
      simp [stepH, findE, this]
      omega
    | some y =>
      have y1 := g0 e2
      by_cases hxy : x.gen < y.gen
      · simp [stepH, findE, this, hxy]
        omega
      · simp [stepH, findE, this, hxy]
        omega

set_option maxRecDepth 100000 in
set_option maxHeartbeats 1600000 in
theorem rfind_no0 {E W : World} {L : List HP} {b : Nat} {D : Dk} {at_ : Int} (x : Sat E W (isRef b D :: L)) (hm : madeB D = true) (ok : OkD D) (h0 : -1000 ≤ at_) (h1 : at_ ≤ 1000) (ht : thereE D at_ ≠ 0) :
    Calls Tryz.prog 15 #[.pointer (some ⟨b, 0, none⟩), .int .i64 at_] W fun e w' => e = .returned (.tuple #[.agg noHd.cells, .int .i64 (thereE D at_)]) ∧ Sat E w' (isRef b D :: L) := by
  have hx1 := zx x
  obtain ⟨q, hq⟩ : ∃ q, W.heap.size = q := ⟨_, rfl⟩
  rw [hq] at hx1
  have HX1 := Lib.hid hx1.p1
  have HRD := Lib.hid (refread_ok HX1.out hm ok at_)
  obtain ⟨t, htt⟩ : ∃ t, thereE D at_ = t := ⟨_, rfl⟩
  rw [htt] at HRD ht ⊢
  have htb : (t != 0) = true := by simp [ht]
  clear x hx1 htt ht
  go_enter Tryz.func15, Tryz.ntmps15
  go_wp2_with (first
    | (go_at_call 36; with_reducible refine HRD.out.mono ?_; rintro e3 w3 ⟨rfl, hx3⟩; have HX3 := Lib.hid hx3; clear hx3)
    | (with_reducible refine wpList_store_hd (HX3.out.p1) (noHd) ?_ ?_; exact ⟨rfl, _, _, rfl, rfl, rfl⟩
       intro w4 hx4
       have hlf := load_hd hx4
       have HX9 := Lib.hid hx4
       clear hx4 HX3))
  refine bodyPost_ret (v := .tuple #[.agg (Hd.cells noHd), .int .i64 t]) ?_ rfl ⟨rfl, HX9.out.tail⟩
  rw [results_cell_tmp rfl]
  simp only [asAddr, Array.getD_eq_getD_getElem?, List.getElem?_toArray, List.getElem?_cons_succ, List.getElem?_cons_zero, Option.getD_some, Sem.run_pure, Result.andThen_ok, hlf]

set_option maxRecDepth 100000 in
set_option maxHeartbeats 1600000 in
theorem rfind_no1 {E W : World} {L : List HP} {b : Nat} {D : Dk} {at_ : Int} (x : Sat E W (isRef b D :: L)) (hm : madeB D = true) (ok : OkD D) (h0 : -1000 ≤ at_) (h1 : at_ ≤ 1000) (ht0 : thereE D at_ = 0) (ht : thereE D (at_ + 1) ≠ 0) :
    Calls Tryz.prog 15 #[.pointer (some ⟨b, 0, none⟩), .int .i64 at_] W fun e w' => e = .returned (.tuple #[.agg noHd.cells, .int .i64 (thereE D (at_ + 1))]) ∧ Sat E w' (isRef b D :: L) := by
  have hx1 := zx x
  obtain ⟨q, hq⟩ : ∃ q, W.heap.size = q := ⟨_, rfl⟩
  rw [hq] at hx1
  have HX1 := Lib.hid hx1.p1
  have HRD := Lib.hid (refread_ok HX1.out hm ok at_)
  have HRE : Hid (∀ W', Sat E W' (isRef b D :: pt q (.cells noHd.cells 33) :: L) → _) := Lib.hid (fun W' h => refread_ok (W := W') h hm ok (at_ + 1))
  obtain ⟨t, htt⟩ : ∃ t, thereE D (at_ + 1) = t := ⟨_, rfl⟩
  rw [ht0] at HRD
  rw [htt] at HRE ht ⊢
  have htb : (t != 0) = true := by simp [ht]
  clear x hx1 htt ht ht0
  go_enter Tryz.func15, Tryz.ntmps15
  go_wp2_with (first
    | (go_at_call 36; with_reducible refine HRD.out.mono ?_; rintro e3 w3 ⟨rfl, hx3⟩; have HX2 := Lib.hid hx3; clear hx3)
    | (go_at_call 36; with_reducible refine (HRE.out _ HX2.out).mono ?_; rintro e3 w3 ⟨rfl, hx3⟩; have HX3 := Lib.hid hx3; clear hx3)
    | (with_reducible refine wpList_store_hd (HX3.out.p1) (noHd) ?_ ?_; exact ⟨rfl, _, _, rfl, rfl, rfl⟩
       intro w4 hx4
       have hlf := load_hd hx4
       have HX9 := Lib.hid hx4
       clear hx4 HX3))
  refine bodyPost_ret (v := .tuple #[.agg (Hd.cells noHd), .int .i64 t]) ?_ rfl ⟨rfl, HX9.out.tail⟩
  rw [results_cell_tmp rfl]
  simp only [asAddr, Array.getD_eq_getD_getElem?, List.getElem?_toArray, List.getElem?_cons_succ, List.getElem?_cons_zero, Option.getD_some, Sem.run_pure, Result.andThen_ok, hlf]

set_option maxRecDepth 100000 in
set_option maxHeartbeats 1600000 in
theorem rfind_second1 {E W : World} {L : List HP} {b : Nat} {D : Dk} {at_ : Int} (x : Sat E W (isRef b D :: L)) (hm : madeB D = true) (ok : OkD D) (h0 : -1000 ≤ at_) (h1 : at_ ≤ 1000) (ht0 : thereE D at_ = 0) (ht1 : thereE D (at_ + 1) = 0) (hR : ∀ i, (readV D i).size ≤ 9223372036854775807) (f : (getP (readV D at_)).isSome = false) (g : (getP (readV D (at_ + 1))).isSome = true) :
    Calls Tryz.prog 15 #[.pointer (some ⟨b, 0, none⟩), .int .i64 at_] W fun e w' => e = .returned (.tuple #[.agg (getV (readV D (at_ + 1))).cells, .int .i64 0]) ∧ Sat E w' (isRef b D :: L) := by
  have hx1 := zx x
  obtain ⟨q, hq⟩ : ∃ q, W.heap.size = q := ⟨_, rfl⟩
  rw [hq] at hx1
  have HX1 := Lib.hid hx1.p1
  have r0 : readS D at_ = readV D at_ := by unfold readS; rw [if_pos ht0]
  have r1 : readS D (at_ + 1) = readV D (at_ + 1) := by unfold readS; rw [if_pos ht1]
  have z0 := hR at_
  have z1 := hR (at_ + 1)
  have HRD := Lib.hid (refread_ok HX1.out hm ok at_)
  have HRE : Hid (∀ W', Sat E W' (isRef b D :: pt q (.cells noHd.cells 33) :: L) → _) := Lib.hid (fun W' h => refread_ok (W := W') h hm ok (at_ + 1))
  rw [ht0, r0] at HRD
  rw [ht1, r1] at HRE
  obtain ⟨s, hs⟩ : ∃ s, readV D at_ = s := ⟨_, rfl⟩
  obtain ⟨t, ht⟩ : ∃ s, readV D (at_ + 1) = s := ⟨_, rfl⟩
  rw [hs] at HRD f z0
  rw [ht] at HRE g z1 ⊢
  obtain ⟨u, hu⟩ : ∃ u, getV s = u := ⟨_, rfl⟩
  obtain ⟨v, hv⟩ : ∃ v, getV t = v := ⟨_, rfl⟩
  have HU := Lib.hid hu
  have HV := Lib.hid hv
  have HF := Lib.hid f
  have HG := Lib.hid g
  rw [hv]
  clear x hx1 ht0 ht1 hR r0 r1 hs ht hu hv f g
  obtain ⟨u0, u1, u2, u3, u4, u5, u6⟩ := u
  obtain ⟨v0, v1, v2, v3, v4, v5, v6⟩ := v
  go_enter Tryz.func15, Tryz.ntmps15
  go_wp2_with (first
    | (go_at_call 36; with_reducible refine HRD.out.mono ?_; rintro e3 w3 ⟨rfl, hx3⟩; have HX2 := Lib.hid hx3; clear hx3)
    | (go_at_call 36; with_reducible refine (HRE.out _ HX2.out).mono ?_; rintro e3 w3 ⟨rfl, hx3⟩; have HX3 := Lib.hid hx3; clear hx3 HX2)
    | (go_at_call 37; with_reducible refine (refGet_ok HX3.out s z0).mono ?_; rintro e4 w4 ⟨rfl, hx4⟩; rw [HU.out, HF.out]; obtain ⟨p, hp⟩ : ∃ p, w4.heap.size = p := ⟨_, rfl⟩; have HX4 := Lib.hid (zx hx4); rw [hp] at HX4; clear hx4 HX3)
    | (with_reducible refine wpList_store_hd (HX4.out) (⟨u0, u1, u2, u3, u4, u5, u6⟩) ?_ ?_; exact ⟨rfl, _, _, rfl, rfl, rfl⟩
       intro w5 hx5
       have HX5 := Lib.hid hx5
       clear hx5 HX4)
    | (go_at_call 37; with_reducible refine (refGet_ok HX5.out t z1).mono ?_; rintro e6 w6 ⟨rfl, hx6⟩; rw [HV.out, HG.out]; obtain ⟨p2, hp2⟩ : ∃ p, w6.heap.size = p := ⟨_, rfl⟩; have HX6 := Lib.hid (zx hx6); rw [hp2] at HX6; clear hx6 HX5)
    | (with_reducible refine wpList_store_hd (HX6.out) (⟨v0, v1, v2, v3, v4, v5, v6⟩) ?_ ?_; exact ⟨rfl, _, _, rfl, rfl, rfl⟩
       intro w7 hx7
       obtain ⟨d0, d1, d2, d3, d4, d5, d6⟩ := hd7 hx7
       obtain ⟨b0, b1, b2, b3, b4, b5, b6⟩ := hd7 hx7.p1
       have HX7 := Lib.hid hx7
       clear hx7 HX6)
    | (with_reducible refine wpList_store_hd (HX7.out.p3) (⟨v0, v1, v2, v3, v4, v5, v6⟩) ?_ ?_; exact ⟨rfl, _, _, rfl, rfl, rfl⟩
       intro w8 hx8
       have hlf := load_hd hx8
       have HX9 := Lib.hid hx8
       clear hx8 HX7))
  refine bodyPost_ret (v := .tuple #[.agg (Hd.cells ⟨v0, v1, v2, v3, v4, v5, v6⟩), .int .i64 0]) ?_ rfl ⟨rfl, HX9.out.tail.tail.tail⟩
  rw [results_cell_tmp rfl]
  simp only [asAddr, Array.getD_eq_getD_getElem?, List.getElem?_toArray, List.getElem?_cons_succ, List.getElem?_cons_zero, Option.getD_some, Sem.run_pure, Result.andThen_ok, hlf]

set_option maxRecDepth 100000 in
set_option maxHeartbeats 1600000 in
theorem rfind_second2 {E W : World} {L : List HP} {b : Nat} {D : Dk} {at_ : Int} (x : Sat E W (isRef b D :: L)) (hm : madeB D = true) (ok : OkD D) (h0 : -1000 ≤ at_) (h1 : at_ ≤ 1000) (ht0 : thereE D at_ = 0) (ht1 : thereE D (at_ + 1) = 0) (hR : ∀ i, (readV D i).size ≤ 9223372036854775807) (f : (getP (readV D at_)).isSome = true) (g : (getP (readV D (at_ + 1))).isSome = true) (c : (getV (readV D at_)).gen < (getV (readV D (at_ + 1))).gen) :
    Calls Tryz.prog 15 #[.pointer (some ⟨b, 0, none⟩), .int .i64 at_] W fun e w' => e = .returned (.tuple #[.agg (getV (readV D (at_ + 1))).cells, .int .i64 0]) ∧ Sat E w' (isRef b D :: L) := by
  have hx1 := zx x
  obtain ⟨q, hq⟩ : ∃ q, W.heap.size = q := ⟨_, rfl⟩
  rw [hq] at hx1
  have HX1 := Lib.hid hx1.p1
  have r0 : readS D at_ = readV D at_ := by unfold readS; rw [if_pos ht0]
  have r1 : readS D (at_ + 1) = readV D (at_ + 1) := by unfold readS; rw [if_pos ht1]
  have z0 := hR at_
  have z1 := hR (at_ + 1)
  have HRD := Lib.hid (refread_ok HX1.out hm ok at_)
  have HRE : Hid (∀ W', Sat E W' (isRef b D :: pt q (.cells noHd.cells 33) :: L) → _) := Lib.hid (fun W' h => refread_ok (W := W') h hm ok (at_ + 1))
  rw [ht0, r0] at HRD
  rw [ht1, r1] at HRE
  obtain ⟨s, hs⟩ : ∃ s, readV D at_ = s := ⟨_, rfl⟩
  obtain ⟨t, ht⟩ : ∃ s, readV D (at_ + 1) = s := ⟨_, rfl⟩
  rw [hs] at HRD f z0 c
  rw [ht] at HRE g z1 c ⊢
  obtain ⟨u, hu⟩ : ∃ u, getV s = u := ⟨_, rfl⟩
  obtain ⟨v, hv⟩ : ∃ v, getV t = v := ⟨_, rfl⟩
  have HU := Lib.hid hu
  have HV := Lib.hid hv
  have HF := Lib.hid f
  have HG := Lib.hid g
  rw [hu, hv] at c
  rw [hv]
  clear x hx1 ht0 ht1 hR r0 r1 hs ht hu hv f g
  obtain ⟨u0, u1, u2, u3, u4, u5, u6⟩ := u
  obtain ⟨v0, v1, v2, v3, v4, v5, v6⟩ := v
  dsimp only at c
  go_enter Tryz.func15, Tryz.ntmps15
  go_wp2_with (first
    | (go_at_call 36; with_reducible refine HRD.out.mono ?_; rintro e3 w3 ⟨rfl, hx3⟩; have HX2 := Lib.hid hx3; clear hx3)
    | (go_at_call 36; with_reducible refine (HRE.out _ HX2.out).mono ?_; rintro e3 w3 ⟨rfl, hx3⟩; have HX3 := Lib.hid hx3; clear hx3 HX2)
    | (go_at_call 37; with_reducible refine (refGet_ok HX3.out s z0).mono ?_; rintro e4 w4 ⟨rfl, hx4⟩; rw [HU.out, HF.out]; obtain ⟨p, hp⟩ : ∃ p, w4.heap.size = p := ⟨_, rfl⟩; have HX4 := Lib.hid (zx hx4); rw [hp] at HX4; clear hx4 HX3)
    | (with_reducible refine wpList_store_hd (HX4.out) (⟨u0, u1, u2, u3, u4, u5, u6⟩) ?_ ?_; exact ⟨rfl, _, _, rfl, rfl, rfl⟩
       intro w5 hx5
       have HX5 := Lib.hid hx5
       clear hx5 HX4)
    | (go_at_call 37; with_reducible refine (refGet_ok HX5.out t z1).mono ?_; rintro e6 w6 ⟨rfl, hx6⟩; rw [HV.out, HG.out]; obtain ⟨p2, hp2⟩ : ∃ p, w6.heap.size = p := ⟨_, rfl⟩; have HX6 := Lib.hid (zx hx6); rw [hp2] at HX6; clear hx6 HX5)
    | (with_reducible refine wpList_store_hd (HX6.out) (⟨v0, v1, v2, v3, v4, v5, v6⟩) ?_ ?_; exact ⟨rfl, _, _, rfl, rfl, rfl⟩
       intro w7 hx7
       obtain ⟨d0, d1, d2, d3, d4, d5, d6⟩ := hd7 hx7
       obtain ⟨b0, b1, b2, b3, b4, b5, b6⟩ := hd7 hx7.p1
       have HX7 := Lib.hid hx7
       clear hx7 HX6)
    | (with_reducible refine wpList_store_hd (HX7.out.p3) (⟨v0, v1, v2, v3, v4, v5, v6⟩) ?_ ?_; exact ⟨rfl, _, _, rfl, rfl, rfl⟩
       intro w8 hx8
       have hlf := load_hd hx8
       have HX9 := Lib.hid hx8
       clear hx8 HX7))
  refine bodyPost_ret (v := .tuple #[.agg (Hd.cells ⟨v0, v1, v2, v3, v4, v5, v6⟩), .int .i64 0]) ?_ rfl ⟨rfl, HX9.out.tail.tail.tail⟩
  rw [results_cell_tmp rfl]
  simp only [asAddr, Array.getD_eq_getD_getElem?, List.getElem?_toArray, List.getElem?_cons_succ, List.getElem?_cons_zero, Option.getD_some, Sem.run_pure, Result.andThen_ok, hlf]

set_option maxRecDepth 100000 in
set_option maxHeartbeats 1600000 in
theorem rfind_first1 {E W : World} {L : List HP} {b : Nat} {D : Dk} {at_ : Int} (x : Sat E W (isRef b D :: L)) (hm : madeB D = true) (ok : OkD D) (h0 : -1000 ≤ at_) (h1 : at_ ≤ 1000) (ht0 : thereE D at_ = 0) (ht1 : thereE D (at_ + 1) = 0) (hR : ∀ i, (readV D i).size ≤ 9223372036854775807) (f : (getP (readV D at_)).isSome = true) (g : (getP (readV D (at_ + 1))).isSome = false) :
    Calls Tryz.prog 15 #[.pointer (some ⟨b, 0, none⟩), .int .i64 at_] W fun e w' => e = .returned (.tuple #[.agg (getV (readV D at_)).cells, .int .i64 0]) ∧ Sat E w' (isRef b D :: L) := by
  have hx1 := zx x
  obtain ⟨q, hq⟩ : ∃ q, W.heap.size = q := ⟨_, rfl⟩
  rw [hq] at hx1
  have HX1 := Lib.hid hx1.p1
  have r0 : readS D at_ = readV D at_ := by unfold readS; rw [if_pos ht0]
  have r1 : readS D (at_ + 1) = readV D (at_ + 1) := by unfold readS; rw [if_pos ht1]
  have z0 := hR at_
  have z1 := hR (at_ + 1)
  have HRD := Lib.hid (refread_ok HX1.out hm ok at_)
  have HRE : Hid (∀ W', Sat E W' (isRef b D :: pt q (.cells noHd.cells 33) :: L) → _) := Lib.hid (fun W' h => refread_ok (W := W') h hm ok (at_ + 1))
  rw [ht0, r0] at HRD
  rw [ht1, r1] at HRE
  obtain ⟨s, hs⟩ : ∃ s, readV D at_ = s := ⟨_, rfl⟩
  obtain ⟨t, ht⟩ : ∃ s, readV D (at_ + 1) = s := ⟨_, rfl⟩
  rw [hs] at HRD f z0 ⊢
  rw [ht] at HRE g z1
  obtain ⟨u, hu⟩ : ∃ u, getV s = u := ⟨_, rfl⟩
  obtain ⟨v, hv⟩ : ∃ v, getV t = v := ⟨_, rfl⟩
  have HU := Lib.hid hu
  have HV := Lib.hid hv
  have HF := Lib.hid f
  have HG := Lib.hid g
  rw [hu]
  clear x hx1 ht0 ht1 hR r0 r1 hs ht hu hv f g
  obtain ⟨u0, u1, u2, u3, u4, u5, u6⟩ := u
  obtain ⟨v0, v1, v2, v3, v4, v5, v6⟩ := v
  go_enter Tryz.func15, Tryz.ntmps15
  go_wp2_with (first
    | (go_at_call 36; with_reducible refine HRD.out.mono ?_; rintro e3 w3 ⟨rfl, hx3⟩; have HX2 := Lib.hid hx3; clear hx3)
    | (go_at_call 36; with_reducible refine (HRE.out _ HX2.out).mono ?_; rintro e3 w3 ⟨rfl, hx3⟩; have HX3 := Lib.hid hx3; clear hx3 HX2)
    | (go_at_call 37; with_reducible refine (refGet_ok HX3.out s z0).mono ?_; rintro e4 w4 ⟨rfl, hx4⟩; rw [HU.out, HF.out]; obtain ⟨p, hp⟩ : ∃ p, w4.heap.size = p := ⟨_, rfl⟩; have HX4 := Lib.hid (zx hx4); rw [hp] at HX4; clear hx4 HX3)
    | (with_reducible refine wpList_store_hd (HX4.out) (⟨u0, u1, u2, u3, u4, u5, u6⟩) ?_ ?_; exact ⟨rfl, _, _, rfl, rfl, rfl⟩
       intro w5 hx5
       have HX5 := Lib.hid hx5
       clear hx5 HX4)
    | (go_at_call 37; with_reducible refine (refGet_ok HX5.out t z1).mono ?_; rintro e6 w6 ⟨rfl, hx6⟩; rw [HV.out, HG.out]; obtain ⟨p2, hp2⟩ : ∃ p, w6.heap.size = p := ⟨_, rfl⟩; have HX6 := Lib.hid (zx hx6); rw [hp2] at HX6; clear hx6 HX5)
    | (with_reducible refine wpList_store_hd (HX6.out) (⟨v0, v1, v2, v3, v4, v5, v6⟩) ?_ ?_; exact ⟨rfl, _, _, rfl, rfl, rfl⟩
       intro w7 hx7
       obtain ⟨d0, d1, d2, d3, d4, d5, d6⟩ := hd7 hx7
       obtain ⟨b0, b1, b2, b3, b4, b5, b6⟩ := hd7 hx7.p1
       have HX7 := Lib.hid hx7
       clear hx7 HX6)
    | (with_reducible refine wpList_store_hd (HX7.out.p3) (⟨u0, u1, u2, u3, u4, u5, u6⟩) ?_ ?_; exact ⟨rfl, _, _, rfl, rfl, rfl⟩
       intro w8 hx8
       have hlf := load_hd hx8
       have HX9 := Lib.hid hx8
       clear hx8 HX7))
  refine bodyPost_ret (v := .tuple #[.agg (Hd.cells ⟨u0, u1, u2, u3, u4, u5, u6⟩), .int .i64 0]) ?_ rfl ⟨rfl, HX9.out.tail.tail.tail⟩
  rw [results_cell_tmp rfl]
  simp only [asAddr, Array.getD_eq_getD_getElem?, List.getElem?_toArray, List.getElem?_cons_succ, List.getElem?_cons_zero, Option.getD_some, Sem.run_pure, Result.andThen_ok, hlf]

set_option maxRecDepth 100000 in
set_option maxHeartbeats 1600000 in
theorem rfind_first2 {E W : World} {L : List HP} {b : Nat} {D : Dk} {at_ : Int} (x : Sat E W (isRef b D :: L)) (hm : madeB D = true) (ok : OkD D) (h0 : -1000 ≤ at_) (h1 : at_ ≤ 1000) (ht0 : thereE D at_ = 0) (ht1 : thereE D (at_ + 1) = 0) (hR : ∀ i, (readV D i).size ≤ 9223372036854775807) (f : (getP (readV D at_)).isSome = true) (g : (getP (readV D (at_ + 1))).isSome = true) (c : ¬ (getV (readV D at_)).gen < (getV (readV D (at_ + 1))).gen) :
    Calls Tryz.prog 15 #[.pointer (some ⟨b, 0, none⟩), .int .i64 at_] W fun e w' => e = .returned (.tuple #[.agg (getV (readV D at_)).cells, .int .i64 0]) ∧ Sat E w' (isRef b D :: L) := by
  have hx1 := zx x
  obtain ⟨q, hq⟩ : ∃ q, W.heap.size = q := ⟨_, rfl⟩
  rw [hq] at hx1
  have HX1 := Lib.hid hx1.p1
  have r0 : readS D at_ = readV D at_ := by unfold readS; rw [if_pos ht0]
  have r1 : readS D (at_ + 1) = readV D (at_ + 1) := by unfold readS; rw [if_pos ht1]
  have z0 := hR at_
  have z1 := hR (at_ + 1)
  have HRD := Lib.hid (refread_ok HX1.out hm ok at_)
  have HRE : Hid (∀ W', Sat E W' (isRef b D :: pt q (.cells noHd.cells 33) :: L) → _) := Lib.hid (fun W' h => refread_ok (W := W') h hm ok (at_ + 1))
  rw [ht0, r0] at HRD
  rw [ht1, r1] at HRE
  obtain ⟨s, hs⟩ : ∃ s, readV D at_ = s := ⟨_, rfl⟩
  obtain ⟨t, ht⟩ : ∃ s, readV D (at_ + 1) = s := ⟨_, rfl⟩
  rw [hs] at HRD f z0 c ⊢
  rw [ht] at HRE g z1 c
  obtain ⟨u, hu⟩ : ∃ u, getV s = u := ⟨_, rfl⟩
  obtain ⟨v, hv⟩ : ∃ v, getV t = v := ⟨_, rfl⟩
  have HU := Lib.hid hu
  have HV := Lib.hid hv
  have HF := Lib.hid f
  have HG := Lib.hid g
  rw [hu, hv] at c
  rw [hu]
  clear x hx1 ht0 ht1 hR r0 r1 hs ht hu hv f g
  obtain ⟨u0, u1, u2, u3, u4, u5, u6⟩ := u
  obtain ⟨v0, v1, v2, v3, v4, v5, v6⟩ := v
  dsimp only at c
  go_enter Tryz.func15, Tryz.ntmps15
  go_wp2_with (first
    | (go_at_call 36; with_reducible refine HRD.out.mono ?_; rintro e3 w3 ⟨rfl, hx3⟩; have HX2 := Lib.hid hx3; clear hx3)
    | (go_at_call 36; with_reducible refine (HRE.out _ HX2.out).mono ?_; rintro e3 w3 ⟨rfl, hx3⟩; have HX3 := Lib.hid hx3; clear hx3 HX2)
    | (go_at_call 37; with_reducible refine (refGet_ok HX3.out s z0).mono ?_; rintro e4 w4 ⟨rfl, hx4⟩; rw [HU.out, HF.out]; obtain ⟨p, hp⟩ : ∃ p, w4.heap.size = p := ⟨_, rfl⟩; have HX4 := Lib.hid (zx hx4); rw [hp] at HX4; clear hx4 HX3)
    | (with_reducible refine wpList_store_hd (HX4.out) (⟨u0, u1, u2, u3, u4, u5, u6⟩) ?_ ?_; exact ⟨rfl, _, _, rfl, rfl, rfl⟩
       intro w5 hx5
       have HX5 := Lib.hid hx5
       clear hx5 HX4)
    | (go_at_call 37; with_reducible refine (refGet_ok HX5.out t z1).mono ?_; rintro e6 w6 ⟨rfl, hx6⟩; rw [HV.out, HG.out]; obtain ⟨p2, hp2⟩ : ∃ p, w6.heap.size = p := ⟨_, rfl⟩; have HX6 := Lib.hid (zx hx6); rw [hp2] at HX6; clear hx6 HX5)
    | (with_reducible refine wpList_store_hd (HX6.out) (⟨v0, v1, v2, v3, v4, v5, v6⟩) ?_ ?_; exact ⟨rfl, _, _, rfl, rfl, rfl⟩
       intro w7 hx7
       obtain ⟨d0, d1, d2, d3, d4, d5, d6⟩ := hd7 hx7
       obtain ⟨b0, b1, b2, b3, b4, b5, b6⟩ := hd7 hx7.p1
       have HX7 := Lib.hid hx7
       clear hx7 HX6)
    | (with_reducible refine wpList_store_hd (HX7.out.p3) (⟨u0, u1, u2, u3, u4, u5, u6⟩) ?_ ?_; exact ⟨rfl, _, _, rfl, rfl, rfl⟩
       intro w8 hx8
       have hlf := load_hd hx8
       have HX9 := Lib.hid hx8
       clear hx8 HX7))
  refine bodyPost_ret (v := .tuple #[.agg (Hd.cells ⟨u0, u1, u2, u3, u4, u5, u6⟩), .int .i64 0]) ?_ rfl ⟨rfl, HX9.out.tail.tail.tail⟩
  rw [results_cell_tmp rfl]
  simp only [asAddr, Array.getD_eq_getD_getElem?, List.getElem?_toArray, List.getElem?_cons_succ, List.getElem?_cons_zero, Option.getD_some, Sem.run_pure, Result.andThen_ok, hlf]

set_option maxRecDepth 100000 in
set_option maxHeartbeats 1600000 in
theorem rfind_none {E W : World} {L : List HP} {b : Nat} {D : Dk} {at_ : Int} (x : Sat E W (isRef b D :: L)) (hm : madeB D = true) (ok : OkD D) (h0 : -1000 ≤ at_) (h1 : at_ ≤ 1000) (ht0 : thereE D at_ = 0) (ht1 : thereE D (at_ + 1) = 0) (hR : ∀ i, (readV D i).size ≤ 9223372036854775807) (f : (getP (readV D at_)).isSome = false) (g : (getP (readV D (at_ + 1))).isSome = false) :
    Calls Tryz.prog 15 #[.pointer (some ⟨b, 0, none⟩), .int .i64 at_] W fun e w' => e = .returned (.tuple #[.agg noHd.cells, .int .i64 32]) ∧ Sat E w' (isRef b D :: L) := by
  have hx1 := zx x
  obtain ⟨q, hq⟩ : ∃ q, W.heap.size = q := ⟨_, rfl⟩
  rw [hq] at hx1
  have HX1 := Lib.hid hx1.p1
  have r0 : readS D at_ = readV D at_ := by unfold readS; rw [if_pos ht0]
  have r1 : readS D (at_ + 1) = readV D (at_ + 1) := by unfold readS; rw [if_pos ht1]
  have z0 := hR at_
  have z1 := hR (at_ + 1)
  have HRD := Lib.hid (refread_ok HX1.out hm ok at_)
  have HRE : Hid (∀ W', Sat E W' (isRef b D :: pt q (.cells noHd.cells 33) :: L) → _) := Lib.hid (fun W' h => refread_ok (W := W') h hm ok (at_ + 1))
  rw [ht0, r0] at HRD
  rw [ht1, r1] at HRE
  obtain ⟨s, hs⟩ : ∃ s, readV D at_ = s := ⟨_, rfl⟩
  obtain ⟨t, ht⟩ : ∃ s, readV D (at_ + 1) = s := ⟨_, rfl⟩
  rw [hs] at HRD f z0
  rw [ht] at HRE g z1
  obtain ⟨u, hu⟩ : ∃ u, getV s = u := ⟨_, rfl⟩
  obtain ⟨v, hv⟩ : ∃ v, getV t = v := ⟨_, rfl⟩
  have HU := Lib.hid hu
  have HV := Lib.hid hv
  have HF := Lib.hid f
  have HG := Lib.hid g
  clear x hx1 ht0 ht1 hR r0 r1 hs ht hu hv f g
  obtain ⟨u0, u1, u2, u3, u4, u5, u6⟩ := u
  obtain ⟨v0, v1, v2, v3, v4, v5, v6⟩ := v
  go_enter Tryz.func15, Tryz.ntmps15
  go_wp2_with (first
    | (go_at_call 36; with_reducible refine HRD.out.mono ?_; rintro e3 w3 ⟨rfl, hx3⟩; have HX2 := Lib.hid hx3; clear hx3)
    | (go_at_call 36; with_reducible refine (HRE.out _ HX2.out).mono ?_; rintro e3 w3 ⟨rfl, hx3⟩; have HX3 := Lib.hid hx3; clear hx3 HX2)
    | (go_at_call 37; with_reducible refine (refGet_ok HX3.out s z0).mono ?_; rintro e4 w4 ⟨rfl, hx4⟩; rw [HU.out, HF.out]; obtain ⟨p, hp⟩ : ∃ p, w4.heap.size = p := ⟨_, rfl⟩; have HX4 := Lib.hid (zx hx4); rw [hp] at HX4; clear hx4 HX3)
    | (with_reducible refine wpList_store_hd (HX4.out) (⟨u0, u1, u2, u3, u4, u5, u6⟩) ?_ ?_; exact ⟨rfl, _, _, rfl, rfl, rfl⟩
       intro w5 hx5
       have HX5 := Lib.hid hx5
       clear hx5 HX4)
    | (go_at_call 37; with_reducible refine (refGet_ok HX5.out t z1).mono ?_; rintro e6 w6 ⟨rfl, hx6⟩; rw [HV.out, HG.out]; obtain ⟨p2, hp2⟩ : ∃ p, w6.heap.size = p := ⟨_, rfl⟩; have HX6 := Lib.hid (zx hx6); rw [hp2] at HX6; clear hx6 HX5)
    | (with_reducible refine wpList_store_hd (HX6.out) (⟨v0, v1, v2, v3, v4, v5, v6⟩) ?_ ?_; exact ⟨rfl, _, _, rfl, rfl, rfl⟩
       intro w7 hx7
       obtain ⟨d0, d1, d2, d3, d4, d5, d6⟩ := hd7 hx7
       obtain ⟨b0, b1, b2, b3, b4, b5, b6⟩ := hd7 hx7.p1
       have HX7 := Lib.hid hx7
       clear hx7 HX6)
    | (with_reducible refine wpList_store_hd (HX7.out.p3) (noHd) ?_ ?_; exact ⟨rfl, _, _, rfl, rfl, rfl⟩
       intro w8 hx8
       have hlf := load_hd hx8
       have HX9 := Lib.hid hx8
       clear hx8 HX7))
  refine bodyPost_ret (v := .tuple #[.agg (Hd.cells noHd), .int .i64 32]) ?_ rfl ⟨rfl, HX9.out.tail.tail.tail⟩
  rw [results_cell_tmp rfl]
  simp only [asAddr, Array.getD_eq_getD_getElem?, List.getElem?_toArray, List.getElem?_cons_succ, List.getElem?_cons_zero, Option.getD_some, Sem.run_pure, Result.andThen_ok, hlf]

theorem refFind_ok {E W : World} {L : List HP} {b : Nat} {D : Dk} {at_ : Int} (x : Sat E W (isRef b D :: L)) (hm : madeB D = true) (ok : OkD D) (h0 : -1000 ≤ at_) (h1 : at_ ≤ 1000) (hR : ∀ i, (readV D i).size ≤ 9223372036854775807) :
    Calls Tryz.prog 15 #[.pointer (some ⟨b, 0, none⟩), .int .i64 at_] W fun e w' => e = .returned (.tuple #[.agg (findR D at_).1.cells, .int .i64 (findR D at_).2]) ∧ Sat E w' (isRef b D :: L) := by
  by_cases t0 : thereE D at_ = 0
  · by_cases t1 : thereE D (at_ + 1) = 0
    · rw [pick_best t0 t1]
      unfold pickH
      cases f : (getP (readV D at_)).isSome with
      | false =>
        cases g : (getP (readV D (at_ + 1))).isSome with
        | false =>
          simpa using rfind_none x hm ok h0 h1 t0 t1 hR f g
        | true =>
          simpa using rfind_second1 x hm ok h0 h1 t0 t1 hR f g
      | true =>
        cases g : (getP (readV D (at_ + 1))).isSome with
        | false =>
          simpa using rfind_first1 x hm ok h0 h1 t0 t1 hR f g
        | true =>
          by_cases c : (getV (readV D at_)).gen < (getV (readV D (at_ + 1))).gen
          · simpa [c] using rfind_second2 x hm ok h0 h1 t0 t1 hR f g c
          · simpa [c] using rfind_first2 x hm ok h0 h1 t0 t1 hR f g c
    · have := rfind_no1 x hm ok h0 h1 t0 t1
      unfold findR
      rw [if_pos t0, if_neg t1]
      exact this
  · have := rfind_no0 x hm ok h0 h1 t0
    unfold findR
    rw [if_neg t0]
    exact this
end Go.Proofs.YtmkpglabiikdeaaGreat
