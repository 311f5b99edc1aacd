/-
  Layer 29: the law RemapNil, walked.
-/
import Derived.Test.YtodjdcdbmbmbmaaGreatDoorRemapO
import Derived.Test.YtodjdcdbmbmbmaaGreatDoorRecK
namespace Go.Proofs.YtodjdcdbmbmbmaaGreatDoor
open Go.RowKit PH

theorem known_ok (W : World) : Calls Tryz.prog 4 #[] W fun e w' => e = .returned (.bool true) ∧ Below W.heap.size W w' :=
  (PH.R.known_reck W).mono fun e w' h => by
    cases e <;> first | exact ⟨by rw [h.1], h.2⟩ | cases h
def TrueBelow (w : World) (e : Ending) (w' : World) : Prop := e = .returned (.bool true) ∧ Below w.heap.size w w'
theorem to_known {W w w' : World} {L : List HP} (x : Sat W w (heapIs W :: L)) (hb : Below w.heap.size w w') : Below W.heap.size W w' := (x.ofBelow hb).below
theorem knows_of {W : World} (h : ∃ e, W.heap[0]? = some (.cells #[.int .i64 0, .int .i64 0, .int .i64 0] e (0, 0))) : Knows W [heapIs W] := fun w x => by
  obtain ⟨e, he⟩ := h
  exact ⟨e, (x.same (Array.getElem?_eq_some_iff.1 he).1).trans he⟩
theorem okRoot : rootS.size = 16 ∧ okH rootS := ⟨by kernel_rfl, of_decide_eq_true (by kernel_rfl)⟩
theorem empty_toList {s : ByteArray} (h : s = ByteArray.empty) : s.toList.isEmpty = true := by subst h; rw [ByteArray.toList_eq]; rfl
set_option maxRecDepth 100000 in
set_option maxHeartbeats 1600000 in
theorem law_b1 {W : World} (s R M : ByteArray) (h1 : s = R) (h2 : ¬ s = ByteArray.empty) (hz : s.size ≤ 100) (a b c : Int)
    (hroot : ∀ (w : World) (L : List HP), Sat W w L → Calls Tryz.prog 7 #[] w fun e w' => e = .returned (.string R) ∧ Sat W w' L)
    (hnev : ∀ (w : World) (L : List HP), Sat W w L → Calls Tryz.prog 6 #[] w fun e w' => e = .returned (.string M) ∧ Sat W w' L)
    (hpq : Calls Tryz.prog 5 #[.string s] W fun e w' => e = .returned (.tuple #[.agg (pt3 a b c), .int .i64 0]) ∧ Sat W w' [heapIs W])
    (hou : ∀ w, Sat W w [heapIs W] → Calls Tryz.prog 8 #[.pointer none, .string s] w fun e w' => e = .returned (.tuple #[.string s, .int .i64 0]) ∧ Sat W w' [heapIs W])
    (hin : ∀ w, Sat W w [heapIs W] → Calls Tryz.prog 9 #[.pointer none, .string s] w fun e w' => e = .returned (.string s) ∧ Sat W w' [heapIs W]) :
    Calls Tryz.prog 3 #[.string s] W (TrueBelow W) := by
  have HRT := Lib.hid hroot
  have HNV := Lib.hid hnev
  have HPQ := Lib.hid hpq
  have HOU := Lib.hid hou
  have HIN := Lib.hid hin
  have hz2 : ¬ 100 < s.size := by omega
  clear hroot hnev hpq hou hin
  have hE := isEmpty_not h2
  clear h2
  subst h1
  go_enter Tryz.func3, Tryz.ntmps3
  go_wp2_with
    (first
    | (go_at_call 5; refine HPQ.out.mono ?_; rintro e1 w1 ⟨rfl, hx1⟩; have HX1 := Lib.hid (hx1.alloc (.cells (pt3 a b c) 24)).tail; clear hx1)
    | (go_at_call 6; refine (HNV.out _ _ HX1.out).mono ?_; rintro e2 w2 ⟨rfl, hx2⟩; have HX2 := Lib.hid hx2; clear hx2)
    | (go_at_call 7; refine (HRT.out _ _ HX2.out).mono ?_; rintro e3 w3 ⟨rfl, hx3⟩; have HX3 := Lib.hid hx3; clear hx3)
    | (go_at_call 8; refine (HOU.out _ (by first | exact HX3.out | exact HX2.out)).mono ?_; rintro e4 w4 ⟨rfl, hx4⟩; have HX4 := Lib.hid hx4; clear hx4)
    | (go_at_call 7; refine (HRT.out _ _ HX4.out).mono ?_; rintro e5 w5 ⟨rfl, hx5⟩; have HX5 := Lib.hid hx5; clear hx5)
    | (go_at_call 9; refine (HIN.out _ (by first | exact HX5.out | exact HX4.out)).mono ?_; rintro e6 w6 ⟨rfl, hx6⟩; have HX6 := Lib.hid hx6; clear hx6)
    | (go_at_call 4; refine (known_ok _).mono ?_; rintro e w' ⟨rfl, hbl⟩))
  go_ret
  exact ⟨rfl, to_known HX6.out hbl⟩
set_option maxRecDepth 100000 in
set_option maxHeartbeats 1600000 in
theorem law_b2 {W : World} (s R M : ByteArray) (h1 : ¬ s = R) (h2 : ¬ s = ByteArray.empty) (hz : s.size ≤ 100) (a b c : Int)
    (hroot : ∀ (w : World) (L : List HP), Sat W w L → Calls Tryz.prog 7 #[] w fun e w' => e = .returned (.string R) ∧ Sat W w' L)
    (hnev : ∀ (w : World) (L : List HP), Sat W w L → Calls Tryz.prog 6 #[] w fun e w' => e = .returned (.string M) ∧ Sat W w' L)
    (hpq : Calls Tryz.prog 5 #[.string s] W fun e w' => e = .returned (.tuple #[.agg (pt3 a b c), .int .i64 0]) ∧ Sat W w' [heapIs W])
    (hou : ∀ w, Sat W w [heapIs W] → Calls Tryz.prog 8 #[.pointer none, .string s] w fun e w' => e = .returned (.tuple #[.string ByteArray.empty, .int .i64 1]) ∧ Sat W w' [heapIs W])
    (hin : ∀ w, Sat W w [heapIs W] → Calls Tryz.prog 9 #[.pointer none, .string s] w fun e w' => e = .returned (.string M) ∧ Sat W w' [heapIs W]) :
    Calls Tryz.prog 3 #[.string s] W (TrueBelow W) := by
  have HRT := Lib.hid hroot
  have HNV := Lib.hid hnev
  have HPQ := Lib.hid hpq
  have HOU := Lib.hid hou
  have HIN := Lib.hid hin
  have hz2 : ¬ 100 < s.size := by omega
  clear hroot hnev hpq hou hin
  have hE := isEmpty_not h2
  have hR := toList_ne h1
  clear h2 h1
  go_enter Tryz.func3, Tryz.ntmps3
  go_wp2_with
    (first
    | (go_at_call 5; refine HPQ.out.mono ?_; rintro e1 w1 ⟨rfl, hx1⟩; have HX1 := Lib.hid (hx1.alloc (.cells (pt3 a b c) 24)).tail; clear hx1)
    | (go_at_call 6; refine (HNV.out _ _ HX1.out).mono ?_; rintro e2 w2 ⟨rfl, hx2⟩; have HX2 := Lib.hid hx2; clear hx2)
    | (go_at_call 7; refine (HRT.out _ _ HX2.out).mono ?_; rintro e3 w3 ⟨rfl, hx3⟩; have HX3 := Lib.hid hx3; clear hx3)
    | (go_at_call 8; refine (HOU.out _ (by first | exact HX3.out | exact HX2.out)).mono ?_; rintro e4 w4 ⟨rfl, hx4⟩; have HX4 := Lib.hid hx4; clear hx4)
    | (go_at_call 7; refine (HRT.out _ _ HX4.out).mono ?_; rintro e5 w5 ⟨rfl, hx5⟩; have HX5 := Lib.hid hx5; clear hx5)
    | (go_at_call 9; refine (HIN.out _ (by first | exact HX5.out | exact HX4.out)).mono ?_; rintro e6 w6 ⟨rfl, hx6⟩; have HX6 := Lib.hid hx6; clear hx6)
    | (go_at_call 4; refine (known_ok _).mono ?_; rintro e w' ⟨rfl, hbl⟩))
  go_ret
  exact ⟨rfl, to_known HX6.out hbl⟩
set_option maxRecDepth 100000 in
set_option maxHeartbeats 1600000 in
theorem law_c1 {W : World} (s R M : ByteArray) (h1 : ¬ s = R) (h2 : s = ByteArray.empty) (hz : s.size ≤ 100) (a b c : Int)
    (hroot : ∀ (w : World) (L : List HP), Sat W w L → Calls Tryz.prog 7 #[] w fun e w' => e = .returned (.string R) ∧ Sat W w' L)
    (hnev : ∀ (w : World) (L : List HP), Sat W w L → Calls Tryz.prog 6 #[] w fun e w' => e = .returned (.string M) ∧ Sat W w' L)
    (hpq : Calls Tryz.prog 5 #[.string s] W fun e w' => e = .returned (.tuple #[.agg (pt3 a b c), .int .i64 14]) ∧ Sat W w' [heapIs W])
    (hou : ∀ w, Sat W w [heapIs W] → Calls Tryz.prog 8 #[.pointer none, .string s] w fun e w' => e = .returned (.tuple #[.string s, .int .i64 0]) ∧ Sat W w' [heapIs W])
    (hin : ∀ w, Sat W w [heapIs W] → Calls Tryz.prog 9 #[.pointer none, .string s] w fun e w' => e = .returned (.string s) ∧ Sat W w' [heapIs W]) :
    Calls Tryz.prog 3 #[.string s] W (TrueBelow W) := by
  have HRT := Lib.hid hroot
  have HNV := Lib.hid hnev
  have HPQ := Lib.hid hpq
  have HOU := Lib.hid hou
  have HIN := Lib.hid hin
  have hz2 : ¬ 100 < s.size := by omega
  clear hroot hnev hpq hou hin
  have hE := empty_toList h2
  have hR := toList_ne h1
  clear h2 h1
  go_enter Tryz.func3, Tryz.ntmps3
  go_wp2_with
    (first
    | (go_at_call 5; refine HPQ.out.mono ?_; rintro e1 w1 ⟨rfl, hx1⟩; have HX1 := Lib.hid (hx1.alloc (.cells (pt3 a b c) 24)).tail; clear hx1)
    | (go_at_call 6; refine (HNV.out _ _ HX1.out).mono ?_; rintro e2 w2 ⟨rfl, hx2⟩; have HX2 := Lib.hid hx2; clear hx2)
    | (go_at_call 7; refine (HRT.out _ _ HX2.out).mono ?_; rintro e3 w3 ⟨rfl, hx3⟩; have HX3 := Lib.hid hx3; clear hx3)
    | (go_at_call 8; refine (HOU.out _ (by first | exact HX3.out | exact HX2.out)).mono ?_; rintro e4 w4 ⟨rfl, hx4⟩; have HX4 := Lib.hid hx4; clear hx4)
    | (go_at_call 7; refine (HRT.out _ _ HX4.out).mono ?_; rintro e5 w5 ⟨rfl, hx5⟩; have HX5 := Lib.hid hx5; clear hx5)
    | (go_at_call 9; refine (HIN.out _ (by first | exact HX5.out | exact HX4.out)).mono ?_; rintro e6 w6 ⟨rfl, hx6⟩; have HX6 := Lib.hid hx6; clear hx6)
    | (go_at_call 4; refine (known_ok _).mono ?_; rintro e w' ⟨rfl, hbl⟩))
  go_ret
  exact ⟨rfl, to_known HX6.out hbl⟩
set_option maxRecDepth 100000 in
set_option maxHeartbeats 1600000 in
theorem law_c2 {W : World} (s R M : ByteArray) (h1 : ¬ s = R) (h2 : ¬ s = ByteArray.empty) (hz : s.size ≤ 100) (a b c : Int)
    (hroot : ∀ (w : World) (L : List HP), Sat W w L → Calls Tryz.prog 7 #[] w fun e w' => e = .returned (.string R) ∧ Sat W w' L)
    (hnev : ∀ (w : World) (L : List HP), Sat W w L → Calls Tryz.prog 6 #[] w fun e w' => e = .returned (.string M) ∧ Sat W w' L)
    (hpq : Calls Tryz.prog 5 #[.string s] W fun e w' => e = .returned (.tuple #[.agg (pt3 a b c), .int .i64 14]) ∧ Sat W w' [heapIs W])
    (hou : ∀ w, Sat W w [heapIs W] → Calls Tryz.prog 8 #[.pointer none, .string s] w fun e w' => e = .returned (.tuple #[.string ByteArray.empty, .int .i64 1]) ∧ Sat W w' [heapIs W])
    (hin : ∀ w, Sat W w [heapIs W] → Calls Tryz.prog 9 #[.pointer none, .string s] w fun e w' => e = .returned (.string s) ∧ Sat W w' [heapIs W]) :
    Calls Tryz.prog 3 #[.string s] W (TrueBelow W) := by
  have HRT := Lib.hid hroot
  have HNV := Lib.hid hnev
  have HPQ := Lib.hid hpq
  have HOU := Lib.hid hou
  have HIN := Lib.hid hin
  have hz2 : ¬ 100 < s.size := by omega
  clear hroot hnev hpq hou hin
  have hE := isEmpty_not h2
  have hR := toList_ne h1
  clear h2 h1
  go_enter Tryz.func3, Tryz.ntmps3
  go_wp2_with
    (first
    | (go_at_call 5; refine HPQ.out.mono ?_; rintro e1 w1 ⟨rfl, hx1⟩; have HX1 := Lib.hid (hx1.alloc (.cells (pt3 a b c) 24)).tail; clear hx1)
    | (go_at_call 6; refine (HNV.out _ _ HX1.out).mono ?_; rintro e2 w2 ⟨rfl, hx2⟩; have HX2 := Lib.hid hx2; clear hx2)
    | (go_at_call 7; refine (HRT.out _ _ HX2.out).mono ?_; rintro e3 w3 ⟨rfl, hx3⟩; have HX3 := Lib.hid hx3; clear hx3)
    | (go_at_call 8; refine (HOU.out _ (by first | exact HX3.out | exact HX2.out)).mono ?_; rintro e4 w4 ⟨rfl, hx4⟩; have HX4 := Lib.hid hx4; clear hx4)
    | (go_at_call 7; refine (HRT.out _ _ HX4.out).mono ?_; rintro e5 w5 ⟨rfl, hx5⟩; have HX5 := Lib.hid hx5; clear hx5)
    | (go_at_call 9; refine (HIN.out _ (by first | exact HX5.out | exact HX4.out)).mono ?_; rintro e6 w6 ⟨rfl, hx6⟩; have HX6 := Lib.hid hx6; clear hx6)
    | (go_at_call 4; refine (known_ok _).mono ?_; rintro e w' ⟨rfl, hbl⟩))
  go_ret
  exact ⟨rfl, to_known HX6.out hbl⟩
set_option maxRecDepth 100000 in
theorem law_big {W : World} (s : ByteArray) (hs : s.size ≤ 9223372036854775807) (hz : 100 < s.size) : Calls Tryz.prog 3 #[.string s] W (TrueBelow W) := by
  go_enter Tryz.func3, Tryz.ntmps3
  go_wp2_with (go_at_call 4; refine (known_ok _).mono ?_; rintro e w' ⟨rfl, hbl⟩)
  go_ret
  exact ⟨rfl, to_known (Sat.start W) hbl⟩
theorem remapNil_ok (s : ByteArray) (hs : s.size ≤ 9223372036854775807) (W : World) (h : ∃ e, W.heap[0]? = some (.cells #[.int .i64 0, .int .i64 0, .int .i64 0] e (0, 0))) :
    Calls Tryz.prog 3 #[.string s] W (TrueBelow W) := by
  by_cases hbig : 100 < s.size
  · exact law_big s hs hbig
  have hkn := knows_of h
  have hroot : ∀ (w : World) (L : List HP), Sat W w L → Calls Tryz.prog 7 #[] w fun e w' => e = .returned (.string rootS) ∧ Sat W w' L := fun _ _ => refRoot_ok
  have hnev : ∀ (w : World) (L : List HP), Sat W w L → Calls Tryz.prog 6 #[] w fun e w' => e = .returned (.string neverS) ∧ Sat W w' L := fun _ _ => refNever_ok
  have hpq := refParseQ (Sat.start W) s
  have hou : ∀ w, Sat W w [heapIs W] → Calls Tryz.prog 8 #[.pointer none, .string s] w fun e w' => e = .returned (outN s) ∧ Sat W w' [heapIs W] := fun w x => outer_nil x s
  have hin : ∀ w, Sat W w [heapIs W] → Calls Tryz.prog 9 #[.pointer none, .string s] w fun e w' => e = .returned (.string (inN s)) ∧ Sat W w' [heapIs W] := fun w x => inner_nil x hkn s
  by_cases hp : s.size = 16 ∧ okH s
  · have he : ¬ s = ByteArray.empty := fun e => by rw [e] at hp; exact absurd hp.1 (by decide)
    rw [pQ, if_pos hp] at hpq
    by_cases hr : s = rootS
    · rw [outN, if_pos (.inr hr)] at hou
      rw [inN, if_pos hp, if_pos hr] at hin
      exact law_b1 s rootS neverS hr he (by omega) _ _ _ hroot hnev hpq hou hin
    · rw [outN, if_neg (by rintro (k | k) <;> contradiction)] at hou
      rw [inN, if_pos hp, if_neg hr] at hin
      exact law_b2 s rootS neverS hr he (by omega) _ _ _ hroot hnev hpq hou hin
  · have hr : ¬ s = rootS := fun e => hp (e ▸ okRoot)
    rw [pQ, if_neg hp] at hpq
    rw [inN, if_neg hp] at hin
    by_cases he : s = ByteArray.empty
    · rw [outN, if_pos (.inl he)] at hou
      exact law_c1 s rootS neverS hr he (by omega) _ _ _ hroot hnev hpq hou hin
    · rw [outN, if_neg (by rintro (k | k) <;> contradiction)] at hou
      exact law_c2 s rootS neverS hr he (by omega) _ _ _ hroot hnev hpq hou hin
end Go.Proofs.YtodjdcdbmbmbmaaGreatDoor
