/-
  Layer 13: HeadGets, HeadPuts, HeadNil, walked.
-/
import Derived.Test.YtmkpglabiikdeaaHeadK
import Derived.Test.YtmkpglabiikdeaaHeadV
namespace Go.Proofs.Ytmkpglabiikdeaa
open Go.RowKit PH

set_option maxRecDepth 100000 in
set_option maxHeartbeats 1600000 in
theorem headGets_ok (s : ByteArray) (hs : s.size ≤ 9223372036854775807) (W : World) : Calls Try.prog 11 #[.string s] W fun e w' => e = .returned (.bool true) ∧ Below W.heap.size W w' := by
  by_cases hz : 300 < s.size
  · go_enter Try.func11, Try.ntmps11
    go_wp2_with (go_at_call 51; refine (headKnown_ok _).mono ?_; rintro e w2 ⟨rfl, hb⟩)
    go_ret
    exact ⟨rfl, hb⟩
  · have hz2 : s.size ≤ 300 := by omega
    have hev : (getP s).isSome = true ∧ getE s = 0 ∨ (getP s).isSome = false ∧ getE s = 14 := by
      unfold getE
      cases getP s with
      | none => exact .inr ⟨rfl, rfl⟩
      | some h => exact .inl ⟨rfl, rfl⟩
    have HX0 := Lib.hid (Sat.start W)
    have hg := headGet_ok HX0.out s hs
    have hr := fun {E w : World} {L : List HP} (x : Sat E w L) => refGet_ok x s hs
    obtain ⟨V, hV⟩ : ∃ V, getV s = V := ⟨_, rfl⟩
    obtain ⟨Ee, hEe⟩ : ∃ e, getE s = e := ⟨_, rfl⟩
    obtain ⟨Is, hIs⟩ : ∃ b, (getP s).isSome = b := ⟨_, rfl⟩
    have HR : Hid (∀ {E w : World} {L : List HP} (x : Sat E w L), Calls Try.prog 54 #[.string s] w fun e w' => e = .returned (.tuple #[.agg V.cells, .bool Is]) ∧ Sat E w' L) := Lib.hid (by rw [← hV, ← hIs]; exact hr)
    rw [hV, hEe] at hg
    rw [hIs, hEe] at hev
    obtain ⟨v0, v1, v2, v3, v4, v5, v6⟩ := V
    have HG := Lib.hid hg
    clear hg hr hV hEe hIs
    rcases hev with ⟨rfl, rfl⟩ | ⟨rfl, rfl⟩
    all_goals go_enter Try.func11, Try.ntmps11
    all_goals go_wp2_with (first
      | (go_at_call 52
         with_reducible refine HG.out.mono ?_
         rintro e w2 ⟨rfl, hx2⟩
         obtain ⟨p1, hp1⟩ : ∃ p, w2.heap.size = p := ⟨_, rfl⟩
         have HX2 := Lib.hid (zx hx2)
         rw [hp1] at HX2
         clear hx2 HX0 HG)
      | (with_reducible refine wpList_store_hd (HX2.out) (⟨v0, v1, v2, v3, v4, v5, v6⟩) ?_ ?_; exact ⟨rfl, _, _, rfl, rfl, rfl⟩
         intro w3 hx3
         have HX3 := Lib.hid hx3
         clear hx3 HX2)
      | (go_at_call 54
         with_reducible refine (HR.out HX3.out).mono ?_
         rintro e w4 ⟨rfl, hx4⟩
         obtain ⟨p2, hp2⟩ : ∃ p, w4.heap.size = p := ⟨_, rfl⟩
         have HX4 := Lib.hid (zx hx4)
         rw [hp2] at HX4
         clear hx4 HX3)
      | (with_reducible refine wpList_store_hd (HX4.out) (⟨v0, v1, v2, v3, v4, v5, v6⟩) ?_ ?_; exact ⟨rfl, _, _, rfl, rfl, rfl⟩
         intro w5 hx5
         obtain ⟨d0, d1, d2, d3, d4, d5, d6⟩ := hd7 hx5
         obtain ⟨c0, c1, c2, c3, c4, c5, c6⟩ := hd7 hx5.p1
         have HX5 := Lib.hid hx5
         clear hx5 HX4)
      | (go_at_call 51; refine (headKnown_ok _).mono ?_; rintro e w6 ⟨rfl, hb6⟩; have HB6 := Lib.hid (HX5.out.ofBelow hb6); clear hb6))
    all_goals go_ret
    all_goals exact ⟨rfl, HB6.out.tail.tail.below⟩

set_option maxRecDepth 100000 in
set_option maxHeartbeats 1600000 in
theorem headPuts_ok (h : Hd) (hi : h.Int64) (W : World) : Calls Try.prog 10 #[.agg h.cells] W fun e w' => e = .returned (.bool true) ∧ Below W.heap.size W w' := by
  obtain ⟨h0, h1, h2, h3, h4, h5, h6⟩ := h
  have hx0 := (Sat.start W).alloc (.cells #[.int .i64 h0, .int .i64 h1, .int .i64 h2, .int .i64 h3, .int .i64 h4, .int .i64 h5, .int .i64 h6] 85)
  obtain ⟨q, hq⟩ : ∃ q, W.heap.size = q := ⟨_, rfl⟩
  rw [hq] at hx0
  have hc : Hd.cells ⟨h0, h1, h2, h3, h4, h5, h6⟩ = #[.int .i64 h0, .int .i64 h1, .int .i64 h2, .int .i64 h3, .int .i64 h4, .int .i64 h5, .int .i64 h6] := rfl
  rw [hc]
  obtain ⟨d0, d1, d2, d3, d4, d5, d6⟩ := hd7 hx0
  have hpt := headPut_ok hx0 ⟨h0, h1, h2, h3, h4, h5, h6⟩ hi
  cases hok : okHd ⟨h0, h1, h2, h3, h4, h5, h6⟩ with
  | false =>
    rw [putS_no hok] at hpt
    unfold okE at hpt
    rw [hok, hc] at hpt
    have HPT := Lib.hid hpt
    have HX0 := Lib.hid hx0
    have HOK := Lib.hid hok
    have HC := Lib.hid hc
    clear hpt hx0 hok hc
    go_enter Try.func10, Try.ntmps10
    go_wp2_with (first
      | (go_at_call 48
         with_reducible refine HPT.out.mono ?_
         rintro e w2 ⟨rfl, hx2⟩
         clear d0 d1 d2 d3 d4 d5 d6
         obtain ⟨d0, d1, d2, d3, d4, d5, d6⟩ := hd7 hx2
         have HX2 := Lib.hid hx2
         clear hx2 HX0 HPT)
      | (go_at_call 49
         have hr := refHdCheck_ok HX2.out ⟨h0, h1, h2, h3, h4, h5, h6⟩
         rw [HOK.out, HC.out] at hr
         with_reducible refine hr.mono ?_
         clear hr
         rintro e w3 ⟨rfl, hx3⟩
         clear d0 d1 d2 d3 d4 d5 d6
         obtain ⟨d0, d1, d2, d3, d4, d5, d6⟩ := hd7 hx3
         have HX3 := Lib.hid hx3
         clear hx3 HX2)
      | (go_at_call 50
         have hr := headCheck_ok HX3.out ⟨h0, h1, h2, h3, h4, h5, h6⟩
         rw [HOK.out, HC.out] at hr
         with_reducible refine hr.mono ?_
         clear hr
         rintro e w4 ⟨rfl, hx4⟩
         have HX4 := Lib.hid hx4
         clear hx4 HX3)
      | (go_at_call 51; refine (headKnown_ok _).mono ?_; rintro e w6 ⟨rfl, hb6⟩; have HB6 := Lib.hid (HX4.out.ofBelow hb6); clear hb6))
    go_ret
    exact ⟨rfl, HB6.out.tail.below⟩
  | true =>
    have hgp := getP_headB hok hi.g.2 hi.n.2
    have hgv : getV (headB ⟨h0, h1, h2, h3, h4, h5, h6⟩) = ⟨h0, h1, h2, h3, h4, h5, h6⟩ := by unfold getV; rw [hgp]
    have hge : getE (headB ⟨h0, h1, h2, h3, h4, h5, h6⟩) = 0 := by unfold getE; rw [hgp]
    have hby := fun {E w : World} {L : List HP} (x : Sat E w L) => refBytes_ok x ⟨h0, h1, h2, h3, h4, h5, h6⟩ (hi.nat hok)
    have hget := fun {E w : World} {L : List HP} (x : Sat E w L) => headGet_ok x (headB ⟨h0, h1, h2, h3, h4, h5, h6⟩) (by rw [headB_size]; omega)
    rw [putS_yes hok] at hpt
    unfold okE at hpt
    rw [hok, hc] at hpt
    obtain ⟨S, hS⟩ : ∃ S, headB ⟨h0, h1, h2, h3, h4, h5, h6⟩ = S := ⟨_, rfl⟩
    rw [hS] at hpt hgv hge
    have HGET : Hid (∀ {E w : World} {L : List HP} (x : Sat E w L), Calls Try.prog 52 #[.string S] w fun e w' => e = .returned (.tuple #[.agg (Hd.cells ⟨h0, h1, h2, h3, h4, h5, h6⟩), .int .i64 0]) ∧ Sat E w' L) := Lib.hid (by rw [← hge, ← hgv, ← hS]; exact hget)
    have HBY : Hid (∀ {E w : World} {L : List HP} (x : Sat E w L), Calls Try.prog 53 #[.agg #[.int .i64 h0, .int .i64 h1, .int .i64 h2, .int .i64 h3, .int .i64 h4, .int .i64 h5, .int .i64 h6]] w fun e w' => e = .returned (.string S) ∧ Sat E w' L) := Lib.hid (by rw [← hS, ← hc]; exact hby)
    have HPT := Lib.hid hpt
    have HX0 := Lib.hid hx0
    have HOK := Lib.hid hok
    have HC := Lib.hid hc
    clear hpt hx0 hok hc hgp hgv hge hby hget hS
    go_enter Try.func10, Try.ntmps10
    go_wp2_with (first
      | (go_at_call 48
         with_reducible refine HPT.out.mono ?_
         rintro e w2 ⟨rfl, hx2⟩
         clear d0 d1 d2 d3 d4 d5 d6
         obtain ⟨d0, d1, d2, d3, d4, d5, d6⟩ := hd7 hx2
         have HX2 := Lib.hid hx2
         clear hx2 HX0 HPT)
      | (go_at_call 49
         have hr := refHdCheck_ok HX2.out ⟨h0, h1, h2, h3, h4, h5, h6⟩
         rw [HOK.out, HC.out] at hr
         with_reducible refine hr.mono ?_
         clear hr
         rintro e w3 ⟨rfl, hx3⟩
         have HX3 := Lib.hid hx3
         clear hx3 HX2)
      | (go_at_call 52
         with_reducible refine (HGET.out HX3.out).mono ?_
         rintro e w4 ⟨rfl, hx4⟩
         obtain ⟨p2, hp2⟩ : ∃ p, w4.heap.size = p := ⟨_, rfl⟩
         have HX4 := Lib.hid (zx hx4)
         rw [hp2] at HX4
         clear hx4 HX3)
      | (with_reducible refine wpList_store_hd (HX4.out) (⟨h0, h1, h2, h3, h4, h5, h6⟩) ?_ ?_; exact ⟨rfl, _, _, rfl, rfl, rfl⟩
         intro w5 hx5
         clear d0 d1 d2 d3 d4 d5 d6
         obtain ⟨d0, d1, d2, d3, d4, d5, d6⟩ := hd7 hx5.p1
         have HX5 := Lib.hid hx5
         clear hx5 HX4)
      | (go_at_call 53
         with_reducible refine (HBY.out HX5.out).mono ?_
         rintro e w6 ⟨rfl, hx6⟩
         clear d0 d1 d2 d3 d4 d5 d6
         obtain ⟨d0, d1, d2, d3, d4, d5, d6⟩ := hd7 hx6.p1
         have HX6 := Lib.hid hx6
         clear hx6 HX5)
      | (go_at_call 50
         have hr := headCheck_ok HX6.out ⟨h0, h1, h2, h3, h4, h5, h6⟩
         rw [HOK.out, HC.out] at hr
         with_reducible refine hr.mono ?_
         clear hr
         rintro e w7 ⟨rfl, hx7⟩
         clear d0 d1 d2 d3 d4 d5 d6
         obtain ⟨d0, d1, d2, d3, d4, d5, d6⟩ := hd7 hx7.p1
         obtain ⟨c0, c1, c2, c3, c4, c5, c6⟩ := hd7 hx7
         have HX7 := Lib.hid hx7
         clear hx7 HX6)
      | (go_at_call 51; refine (headKnown_ok _).mono ?_; rintro e w8 ⟨rfl, hb8⟩; have HB8 := Lib.hid (HX7.out.ofBelow hb8); clear hb8))
    go_ret
    exact ⟨rfl, HB8.out.tail.tail.below⟩

set_option maxRecDepth 100000 in
set_option maxHeartbeats 1600000 in
theorem headNil_ok (h : Hd) (at_ : Int) (W : World) : Calls Try.prog 13 #[.agg h.cells, .int .i64 at_] W fun e w' => e = .returned (.bool true) ∧ Below W.heap.size W w' := by
  obtain ⟨h0, h1, h2, h3, h4, h5, h6⟩ := h
  have hx0 := (Sat.start W).alloc (.cells #[.int .i64 h0, .int .i64 h1, .int .i64 h2, .int .i64 h3, .int .i64 h4, .int .i64 h5, .int .i64 h6] 85)
  obtain ⟨q, hq⟩ : ∃ q, W.heap.size = q := ⟨_, rfl⟩
  rw [hq] at hx0
  have hc : Hd.cells ⟨h0, h1, h2, h3, h4, h5, h6⟩ = #[.int .i64 h0, .int .i64 h1, .int .i64 h2, .int .i64 h3, .int .i64 h4, .int .i64 h5, .int .i64 h6] := rfl
  rw [hc]
  have HX0 := Lib.hid hx0
  have HC := Lib.hid hc
  clear hx0 hc
  go_enter Try.func13, Try.ntmps13
  go_wp2_with (first
    | (go_at_call 55
       with_reducible refine (find_nil HX0.out at_).mono ?_
       rintro e w2 ⟨rfl, hx2⟩
       obtain ⟨p1, hp1⟩ : ∃ p, w2.heap.size = p := ⟨_, rfl⟩
       have HX2 := Lib.hid (zx hx2)
       rw [hp1] at HX2
       clear hx2 HX0)
    | (with_reducible refine wpList_store_hd (HX2.out) (noHd) ?_ ?_; exact ⟨rfl, _, _, rfl, rfl, rfl⟩
       intro w3 hx3
       obtain ⟨d0, d1, d2, d3, d4, d5, d6⟩ := hd7 hx3.p1
       have HX3 := Lib.hid hx3
       clear hx3 HX2)
    | (go_at_call 56
       have hr := save_nil HX3.out at_ ⟨h0, h1, h2, h3, h4, h5, h6⟩
       rw [HC.out] at hr
       with_reducible refine hr.mono ?_
       clear hr
       rintro e w4 ⟨rfl, hx4⟩
       obtain ⟨p2, hp2⟩ : ∃ p, w4.heap.size = p := ⟨_, rfl⟩
       have HX4 := Lib.hid (zx hx4)
       rw [hp2] at HX4
       clear hx4 HX3)
    | (with_reducible refine wpList_store_hd (HX4.out) (noHd) ?_ ?_; exact ⟨rfl, _, _, rfl, rfl, rfl⟩
       intro w5 hx5
       obtain ⟨c0, c1, c2, c3, c4, c5, c6⟩ := hd7 hx5
       obtain ⟨b0, b1, b2, b3, b4, b5, b6⟩ := hd7 hx5.p1
       have HX5 := Lib.hid hx5
       clear hx5 HX4)
    | (go_at_call 51; refine (headKnown_ok _).mono ?_; rintro e w6 ⟨rfl, hb6⟩; have HB6 := Lib.hid (HX5.out.ofBelow hb6); clear hb6))
  go_ret
  exact ⟨rfl, HB6.out.tail.tail.tail.below⟩
end Go.Proofs.Ytmkpglabiikdeaa
