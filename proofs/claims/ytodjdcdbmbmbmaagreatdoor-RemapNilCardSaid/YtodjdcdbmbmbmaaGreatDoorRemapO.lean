/-
  Layer 29: what goes in and out of no shelf.
-/
import Derived.Test.YtodjdcdbmbmbmaaGreatDoorRootN
namespace Go.Proofs.YtodjdcdbmbmbmaaGreatDoor
open Go.RowKit PH

set_option maxRecDepth 100000 in
theorem issue_nil {E W : World} {L : List HP} (x : Sat E W L) (s : ByteArray) : Calls Tryz.prog 15 #[.pointer none, .string s] W fun e w' => e = .returned (.tuple #[.agg #[.int .i64 0, .int .i64 0, .string ByteArray.empty], .int .i64 1]) ∧ Sat E w' L := by
  have HX := Lib.hid x
  clear x
  go_enter Tryz.func15, Tryz.ntmps15
  go_wp2
  (try simp only [Exit.inBlock, Exit.then])
  exact post_row2 rfl W.heap.size 46 _ (0, 0) _ rfl (heap_alloc_new W _) Tryz.underlying46 rfl (by kernel_rfl) rfl ⟨rfl, (HX.out.alloc _).tail⟩
set_option maxRecDepth 100000 in
theorem held_nil {E W : World} {L : List HP} (x : Sat E W L) (a b : Int) : Calls Tryz.prog 19 #[.pointer none, .int .i64 a, .int .i64 b] W fun e w' => e = .returned (.tuple #[.string ByteArray.empty, .bool false]) ∧ Sat E w' L := by
  have HX := Lib.hid x
  clear x
  go_enter Tryz.func19, Tryz.ntmps19
  go_wp2
  first | go_ret | go_ret2
  exact ⟨rfl, (by first | exact HX.out | exact (HX.out.alloc _).tail | exact ((HX.out.alloc _).tail.alloc _).tail | exact (((HX.out.alloc _).tail.alloc _).tail.alloc _).tail | exact ((((HX.out.alloc _).tail.alloc _).tail.alloc _).tail.alloc _).tail | exact (((((HX.out.alloc _).tail.alloc _).tail.alloc _).tail.alloc _).tail.alloc _).tail)⟩
/-- What both parsers answer. -/
def pQ (s : ByteArray) : Value := if s.size = 16 ∧ okH s then .tuple #[.agg (pt3 (byt s 0) (fld s 4 4) (pB s)), .int .i64 0] else .tuple #[.agg (pt3 0 0 0), .int .i64 14]
theorem pQ_pR {s : ByteArray} (h : s.size = 16) : pQ s = pR s := by
  by_cases c : okH s
  · rw [pR_yes c, pQ, if_pos ⟨h, c⟩]
  · rw [pR_no c, pQ, if_neg fun k => c k.2]
theorem pQ_size {s : ByteArray} (h : ¬ s.size = 16) : pQ s = .tuple #[.agg (pt3 0 0 0), .int .i64 14] := if_neg fun k => h k.1
theorem parseQ {E W : World} {L : List HP} (x : Sat E W L) (hk : Knows E L) (s : ByteArray) :
    Calls Tryz.prog 18 #[.string s] W fun e w' => e = .returned (pQ s) ∧ Sat E w' L := by
  by_cases h : s.size = 16
  · rw [pQ_pR h]; exact parse_ok x hk s h
  · rw [pQ_size h]; exact parse_size x hk s h
theorem refParseQ {E W : World} {L : List HP} (x : Sat E W L) (s : ByteArray) :
    Calls Tryz.prog 5 #[.string s] W fun e w' => e = .returned (pQ s) ∧ Sat E w' L := by
  by_cases h : s.size = 16
  · rw [pQ_pR h]; exact refParse_ok x s h
  · rw [pQ_size h]; exact refParse_size x s h
theorem toList_ne {s t : ByteArray} (h : ¬ s = t) : (s.toList == t.toList) = false := by
  rw [beq_eq_false_iff_ne, ByteArray.toList_eq, ByteArray.toList_eq]
  exact fun e => h (ByteArray.ext (Array.toList_inj.1 e))
theorem isEmpty_not {s : ByteArray} (h : ¬ s = ByteArray.empty) : s.toList.isEmpty = false := by
  rw [ByteArray.toList_eq]
  cases hl : s.data.toList with
  | nil => exact absurd (ByteArray.ext (Array.toList_inj.1 hl)) h
  | cons _ _ => rfl
/-- What stands for a handle, of no shelf. -/
def inN (s : ByteArray) : ByteArray := if s.size = 16 ∧ okH s then (if s = rootS then s else neverS) else s
set_option maxRecDepth 100000 in
set_option maxHeartbeats 1600000 in
theorem inner_nil {E W : World} {L : List HP} (x : Sat E W L) (hk : Knows E L) (s : ByteArray) : Calls Tryz.prog 9 #[.pointer none, .string s] W fun e w' => e = .returned (.string (inN s)) ∧ Sat E w' L := by
  have HPA := Lib.hid (parseQ x hk s)
  obtain ⟨R, hR⟩ : ∃ R, rootS = R := ⟨_, rfl⟩
  obtain ⟨M, hM⟩ : ∃ M, neverS = M := ⟨_, rfl⟩
  have hroot : ∀ (w : World) (L : List HP), Sat E w L → Calls Tryz.prog 14 #[] w fun e w' => e = .returned (.string R) ∧ Sat E w' L := by rw [← hR]; exact fun _ _ => fhRoot_ok
  have hnev : ∀ (w : World) (L : List HP), Sat E w L → Calls Tryz.prog 17 #[] w fun e w' => e = .returned (.string M) ∧ Sat E w' L := by rw [← hM]; exact fun _ _ => fhNever_ok
  have HRT := Lib.hid hroot
  have HNV := Lib.hid hnev
  clear hroot hnev x
  by_cases h : s.size = 16 ∧ okH s
  · have hin : inN s = if s = R then s else M := by rw [inN, if_pos h, hR, hM]
    rw [hin]
    rw [pQ, if_pos h] at HPA
    have hb0 := h.2.1
    obtain ⟨k, hk0⟩ : ∃ k, byt s 0 = k := ⟨_, rfl⟩
    rw [hk0] at HPA hb0
    clear h hR hM hk hin hk0
    generalize fld s 4 4 = A at *
    generalize pB s = B at *
    by_cases c : s = R
    · subst c
      rw [if_pos rfl]
      go_enter Tryz.func9, Tryz.ntmps9
      go_wp2_with (first
        | (go_at_call 18; refine HPA.out.mono ?_; rintro e2 w2 ⟨rfl, hx2⟩; have HX2 := Lib.hid (hx2.alloc (.cells (pt3 k A B) 24)).tail; clear hx2)
        | (go_at_call 14; refine (HRT.out _ _ HX2.out).mono ?_; rintro e3 w3 ⟨rfl, hx3⟩; have HX3 := Lib.hid hx3; clear hx3))
      go_ret
      exact ⟨rfl, HX3.out⟩
    · rw [if_neg c]
      have hne := toList_ne c
      clear c
      rcases hb0 with rfl | rfl
      · go_enter Tryz.func9, Tryz.ntmps9
        go_wp2_with (first
          | (go_at_call 18; refine HPA.out.mono ?_; rintro e2 w2 ⟨rfl, hx2⟩; have HX2 := Lib.hid (hx2.alloc (.cells (pt3 1 A B) 24)); clear hx2)
          | (go_at_call 14; refine (HRT.out _ _ HX2.out).mono ?_; rintro e3 w3 ⟨rfl, hx3⟩; have c0 := cell_blk hx3.at 0; have HX3 := Lib.hid hx3; clear hx3)
          | (go_at_call 17; refine (HNV.out _ _ HX3.out).mono ?_; rintro e4 w4 ⟨rfl, hx4⟩; have HX4 := Lib.hid hx4; clear hx4))
        go_ret
        exact ⟨rfl, HX4.out.tail⟩
      · go_enter Tryz.func9, Tryz.ntmps9
        go_wp2_with (first
          | (go_at_call 18; refine HPA.out.mono ?_; rintro e2 w2 ⟨rfl, hx2⟩; have HX2 := Lib.hid (hx2.alloc (.cells (pt3 2 A B) 24)); clear hx2)
          | (go_at_call 14; refine (HRT.out _ _ HX2.out).mono ?_; rintro e3 w3 ⟨rfl, hx3⟩; have c0 := cell_blk hx3.at 0; have c1 := cell_blk hx3.at 1; have c2 := cell_blk hx3.at 2; have HX3 := Lib.hid hx3; clear hx3)
          | (go_at_call 19; refine (held_nil HX3.out A B).mono ?_; rintro e4 w4 ⟨rfl, hx4⟩; have HX4 := Lib.hid hx4; clear hx4)
          | (go_at_call 17; refine (HNV.out _ _ HX4.out).mono ?_; rintro e5 w5 ⟨rfl, hx5⟩; have HX5 := Lib.hid hx5; clear hx5))
        go_ret
        exact ⟨rfl, HX5.out.tail⟩
  · have hin : inN s = s := by rw [inN, if_neg h]
    rw [hin]
    rw [pQ, if_neg h] at HPA
    clear h hR hM hk hin
    go_enter Tryz.func9, Tryz.ntmps9
    go_wp2_with (go_at_call 18; refine HPA.out.mono ?_; rintro e2 w2 ⟨rfl, hx2⟩; have HX2 := Lib.hid (hx2.alloc (.cells (pt3 0 0 0) 24)).tail; clear hx2)
    go_ret
    exact ⟨rfl, HX2.out⟩
/-- What a handle becomes below, of no shelf. -/
def outN (s : ByteArray) : Value := if s = ByteArray.empty ∨ s = rootS then .tuple #[.string s, .int .i64 0] else .tuple #[.string ByteArray.empty, .int .i64 1]
set_option maxRecDepth 100000 in
set_option maxHeartbeats 1600000 in
theorem outer_nil {E W : World} {L : List HP} (x : Sat E W L) (s : ByteArray) : Calls Tryz.prog 8 #[.pointer none, .string s] W fun e w' => e = .returned (outN s) ∧ Sat E w' L := by
  obtain ⟨R, hR⟩ : ∃ R, rootS = R := ⟨_, rfl⟩
  have hroot : ∀ (w : World) (L : List HP), Sat E w L → Calls Tryz.prog 14 #[] w fun e w' => e = .returned (.string R) ∧ Sat E w' L := by rw [← hR]; exact fun _ _ => fhRoot_ok
  have HRT := Lib.hid hroot
  have hd : outN s = if s = ByteArray.empty ∨ s = R then .tuple #[.string s, .int .i64 0] else .tuple #[.string ByteArray.empty, .int .i64 1] := by rw [outN, hR]
  rw [hd]
  have HX := Lib.hid x
  clear x hR hd hroot
  by_cases c1 : s = ByteArray.empty
  · rw [if_pos (.inl c1)]
    subst c1
    go_enter Tryz.func8, Tryz.ntmps8
    go_wp2
    first | go_ret | go_ret2
    exact ⟨rfl, HX.out⟩
  by_cases c2 : s = R
  · rw [if_pos (.inr c2)]
    have h1 := isEmpty_not c1
    subst c2
    go_enter Tryz.func8, Tryz.ntmps8
    go_wp2_with (go_at_call 14; refine (HRT.out _ _ HX.out).mono ?_; rintro e3 w3 ⟨rfl, hx3⟩; have HX3 := Lib.hid hx3; clear hx3)
    first | go_ret | go_ret2
    exact ⟨rfl, HX3.out⟩
  · rw [if_neg (by rintro (h | h) <;> contradiction)]
    have h1 := isEmpty_not c1
    have h2 := toList_ne c2
    clear c1 c2
    go_enter Tryz.func8, Tryz.ntmps8
    go_wp2_with (first
      | (go_at_call 14; refine (HRT.out _ _ HX.out).mono ?_; rintro e3 w3 ⟨rfl, hx3⟩; have HX3 := Lib.hid hx3; clear hx3)
      | (go_at_call 15; refine (issue_nil HX3.out s).mono ?_; rintro e4 w4 ⟨rfl, hx4⟩; have HX4 := Lib.hid (hx4.alloc (.cells #[.int .i64 0, .int .i64 0, .string ByteArray.empty] 46)).tail; clear hx4))
    first | go_ret | go_ret2
    exact ⟨rfl, HX4.out⟩
end Go.Proofs.YtodjdcdbmbmbmaaGreatDoor
