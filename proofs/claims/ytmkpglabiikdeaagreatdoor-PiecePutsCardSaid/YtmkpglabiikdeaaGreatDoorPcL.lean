/-
  Layer 11: the laws PiecePuts and PieceGets, walked.
-/
import Derived.Test.YtmkpglabiikdeaaGreatDoorPcR
import Derived.Test.YtmkpglabiikdeaaGreatDoorLaws11
namespace Go.Proofs.YtmkpglabiikdeaaGreatDoor
open Go.RowKit PH
attribute [local irreducible] fld pcB pcOfB left

def TrueBelow (w : World) (e : Ending) (w' : World) : Prop := e = .returned (.bool true) ∧ Below w.heap.size w w'
theorem to_known {W w w' : World} {L : List HP} (x : Sat W w (heapIs W :: L)) (hb : Below w.heap.size w w') : Below W.heap.size W w' := (x.ofBelow hb).below

set_option maxRecDepth 100000 in
set_option maxHeartbeats 1600000 in
theorem pieceGets_ok (s : ByteArray) (W : World) (hs : s.size ≤ 9223372036854775807) : Calls Tryz.prog 4 #[.string s] W (TrueBelow W) := by
  by_cases h3 : 300 < s.size
  · go_enter Tryz.func4, Tryz.ntmps4
    go_wp2_with (go_at_call 10; refine (known_ok _).mono ?_; rintro e w' ⟨rfl, hb⟩)
    go_ret
    exact ⟨rfl, hb⟩
  · obtain ⟨⟨v0, v1, v2, v3, v4⟩, hv⟩ : ∃ v, getPcV s = v := ⟨_, rfl⟩
    have hcase : (getPcE s = 0 ∧ getPcB s = true) ∨ (getPcE s = 14 ∧ getPcB s = false) := by
      unfold getPcE getPcB
      cases getPc s with
      | none => exact .inr ⟨rfl, rfl⟩
      | some p => exact .inl ⟨rfl, rfl⟩
    have hg := fun {E W : World} {L : List HP} (x : Sat E W L) => pcGet_ok x s hs
    have hr := fun {E W : World} {L : List HP} (x : Sat E W L) => rpcGet_ok x s hs
    rw [hv] at hg hr
    have hx0 := Sat.start W
    rcases hcase with ⟨h1, h2⟩ | ⟨h1, h2⟩
    · rw [h1] at hg
      rw [h2] at hr
      have HG : Hid (∀ (E W : World) (L : List HP), Sat E W L → _) := Lib.hid fun E W L x => hg (E := E) (W := W) (L := L) x
      have HR : Hid (∀ (E W : World) (L : List HP), Sat E W L → _) := Lib.hid fun E W L x => hr (E := E) (W := W) (L := L) x
      have HX0 := Lib.hid hx0
      clear hg hr hx0 hv h1 h2
      go_enter Tryz.func4, Tryz.ntmps4
      go_wp2_with (first
        | (go_at_call 14; refine (HG.out _ _ _ HX0.out).mono ?_; rintro e w1 ⟨rfl, hx1⟩; obtain ⟨q1, hq1⟩ : ∃ q, w1.heap.size = q := ⟨_, rfl⟩; have hx1 := zp hx1; rw [hq1] at hx1; have HX1 := Lib.hid hx1; clear hx1)
        | (with_reducible refine wpList_store_pc HX1.out ⟨v0, v1, v2, v3, v4⟩ ?_ ?_; exact ⟨rfl, _, _, rfl, rfl, rfl⟩; intro w2 hx2; have HX2 := Lib.hid hx2; clear hx2)
        | (go_at_call 16; refine (HR.out _ _ _ HX2.out).mono ?_; rintro e w3 ⟨rfl, hx3⟩; obtain ⟨q3, hq3⟩ : ∃ q, w3.heap.size = q := ⟨_, rfl⟩; have hx3 := zp hx3; rw [hq3] at hx3; have HX3 := Lib.hid hx3; clear hx3)
        | (with_reducible refine wpList_store_pc HX3.out ⟨v0, v1, v2, v3, v4⟩ ?_ ?_; exact ⟨rfl, _, _, rfl, rfl, rfl⟩; intro w4 hx4; obtain ⟨c0, c1, c2, c3, c4⟩ := pc5 (p := ⟨v0, v1, v2, v3, v4⟩) hx4; obtain ⟨d0, d1, d2, d3, d4⟩ := pc5 (p := ⟨v0, v1, v2, v3, v4⟩) hx4.p1; dsimp only at c0 c1 c2 c3 c4 d0 d1 d2 d3 d4; have HX4 := Lib.hid hx4; clear hx4)
        | (go_at_call 10; refine (known_ok _).mono ?_; rintro e w' ⟨rfl, hb⟩))
      go_ret
      exact ⟨rfl, to_known HX4.out.p2 hb⟩
    · rw [h1] at hg
      rw [h2] at hr
      have HG : Hid (∀ (E W : World) (L : List HP), Sat E W L → _) := Lib.hid fun E W L x => hg (E := E) (W := W) (L := L) x
      have HR : Hid (∀ (E W : World) (L : List HP), Sat E W L → _) := Lib.hid fun E W L x => hr (E := E) (W := W) (L := L) x
      have HX0 := Lib.hid hx0
      clear hg hr hx0 hv h1 h2
      go_enter Tryz.func4, Tryz.ntmps4
      go_wp2_with (first
        | (go_at_call 14; refine (HG.out _ _ _ HX0.out).mono ?_; rintro e w1 ⟨rfl, hx1⟩; obtain ⟨q1, hq1⟩ : ∃ q, w1.heap.size = q := ⟨_, rfl⟩; have hx1 := zp hx1; rw [hq1] at hx1; have HX1 := Lib.hid hx1; clear hx1)
        | (with_reducible refine wpList_store_pc HX1.out ⟨v0, v1, v2, v3, v4⟩ ?_ ?_; exact ⟨rfl, _, _, rfl, rfl, rfl⟩; intro w2 hx2; have HX2 := Lib.hid hx2; clear hx2)
        | (go_at_call 16; refine (HR.out _ _ _ HX2.out).mono ?_; rintro e w3 ⟨rfl, hx3⟩; obtain ⟨q3, hq3⟩ : ∃ q, w3.heap.size = q := ⟨_, rfl⟩; have hx3 := zp hx3; rw [hq3] at hx3; have HX3 := Lib.hid hx3; clear hx3)
        | (with_reducible refine wpList_store_pc HX3.out ⟨v0, v1, v2, v3, v4⟩ ?_ ?_; exact ⟨rfl, _, _, rfl, rfl, rfl⟩; intro w4 hx4; obtain ⟨c0, c1, c2, c3, c4⟩ := pc5 (p := ⟨v0, v1, v2, v3, v4⟩) hx4; obtain ⟨d0, d1, d2, d3, d4⟩ := pc5 (p := ⟨v0, v1, v2, v3, v4⟩) hx4.p1; dsimp only at c0 c1 c2 c3 c4 d0 d1 d2 d3 d4; have HX4 := Lib.hid hx4; clear hx4)
        | (go_at_call 10; refine (known_ok _).mono ?_; rintro e w' ⟨rfl, hb⟩))
      go_ret
      exact ⟨rfl, to_known HX4.out.p2 hb⟩

theorem sees_one {E w : World} {L : List HP} {q : Nat} {p : Pc} {ty : TypeId} (x : Sat E w (pt q (.cells p.arr ty) :: L)) : Sees w (some ⟨q, 0, none⟩) (pcs [p]) := fun j u hj => ⟨q, 0, rfl, by rw [Nat.zero_add, cell_blk x.at, ← hj]; simp [pcs, Pc.cells, Pc.arr]⟩
theorem bigs_one (p : Pc) : bigs [p] = decide (200 < p.data.size) := by simp [bigs]

set_option maxRecDepth 100000 in
set_option maxHeartbeats 1600000 in
theorem piecePuts_ok (p : Pc) (W : World) (hs : p.data.size ≤ 9223372036854775807) (hq : p.seq ≤ 9223372036854775807) : Calls Tryz.prog 3 #[.agg p.arr] W (TrueBelow W) := by
  obtain ⟨q, hq1⟩ : ∃ q, W.heap.size = q := ⟨_, rfl⟩
  have hx1 := (Sat.start W).alloc (.cells p.arr 23)
  rw [hq1] at hx1
  have hx2 := hx1.alloc (.cells p.arr 23)
  rw [World.size_alloc, hq1] at hx2
  have hlr := large_ok (c := 1) (sees_one hx2) (by simp)
  rw [bigs_one] at hlr
  have hck : ∀ w, Calls Tryz.prog 13 #[.agg p.arr] w _ := fun w => check_ok p w hs
  have hrck : ∀ w, Calls Tryz.prog 12 #[.agg p.arr] w _ := fun w => refCheck_ok p w hs
  have hput : ∀ (E w : World) (L : List HP), Sat E w L → _ := fun E w L x => pcPut_ok (E := E) (W := w) (L := L) x p hs hq
  have hc5 : ∀ {M : List HP} {w : World}, Sat W w (pt q (.cells p.arr 23) :: M) → _ := fun {M w} y => pc5 y
  obtain ⟨B, hB⟩ : ∃ B, decide (200 < p.data.size) = B := ⟨_, rfl⟩
  rw [hB] at hlr
  cases B
  · cases k : okPc p with
    | false =>
      have h1 : putB p = ByteArray.empty := putB_no k
      have h2 : chk p = 14 := by unfold chk; rw [k]; rfl
      rw [h1, h2] at hput
      rw [h2] at hck
      rw [k] at hrck
      obtain ⟨p0, p1, p2, p3, p4⟩ := p
      unfold Pc.arr at hx1 hx2 hlr hck hrck hput hc5 ⊢
      dsimp only at hx1 hx2 hlr hck hrck hput hc5 ⊢
      have HLR := Lib.hid hlr
      have HCK := Lib.hid hck
      have HRCK := Lib.hid hrck
      have HPUT := Lib.hid hput
      have HC5 : Hid (∀ (M : List HP) (w : World), Sat W w (pt q (.cells #[.int .i64 p0, .int .i64 p1, .int .i64 p2, .int .i64 p3, .string p4] 23) :: M) → _) := Lib.hid fun M w => hc5
      obtain ⟨d0, d1, d2, d3, d4⟩ := hc5 hx2.p1
      have HX2 := Lib.hid hx2
      clear hx1 hx2 hlr hck hrck hput hc5 h1 h2 k hB
      go_enter Tryz.func3, Tryz.ntmps3
      go_wp2_with (first
        | (go_at_call 9; refine HLR.out.mono ?_; rintro e w2 ⟨rfl, hw⟩; subst w2)
        | (go_at_call 11; refine (HPUT.out _ _ _ HX2.out).mono ?_; rintro e w3 ⟨rfl, hx3⟩; clear d0 d1 d2 d3 d4; obtain ⟨d0, d1, d2, d3, d4⟩ := HC5.out _ _ hx3.p1; have HX3 := Lib.hid hx3; clear hx3)
        | (go_at_call 12; refine (HRCK.out _).mono ?_; rintro e w4 ⟨rfl, hb4⟩; have hx4 := HX3.out.ofBelow hb4; clear d0 d1 d2 d3 d4; obtain ⟨d0, d1, d2, d3, d4⟩ := HC5.out _ _ hx4.p1; have HX4 := Lib.hid hx4; clear hx4 hb4)
        | (go_at_call 13; refine (HCK.out _).mono ?_; rintro e w5 ⟨rfl, hb5⟩; have hx5 := HX4.out.ofBelow hb5; clear d0 d1 d2 d3 d4; obtain ⟨d0, d1, d2, d3, d4⟩ := HC5.out _ _ hx5.p1; have HX5 := Lib.hid hx5; clear hx5 hb5)
        | (go_at_call 10; refine (known_ok _).mono ?_; rintro e w' ⟨rfl, hb⟩))
      go_ret
      exact ⟨rfl, to_known HX5.out.p2 hb⟩
    | true =>
      have h2 : chk p = 0 := by unfold chk; rw [k]; rfl
      obtain ⟨f1, f2, f3⟩ := getPc_yes (getPc_pcB k hq)
      have hsz := pcB_size (okPc_data k)
      have hnat := okPc_nat k hq
      have hby : ∀ (E w : World) (L : List HP), Sat E w L → _ := fun E w L x => refPc_ok (E := E) (W := w) (L := L) x p hnat
      obtain ⟨T, hT⟩ : ∃ T, pcB p = T := ⟨_, rfl⟩
      rw [hT] at hby f1 f2 hsz
      have h1 : putB p = T := (putB_yes k).trans hT
      have hg : ∀ (E w : World) (L : List HP), Sat E w L → _ := fun E w L x => pcGet_ok (E := E) (W := w) (L := L) x T (by omega)
      rw [f1, f2] at hg
      rw [h1, h2] at hput
      rw [h2] at hck
      rw [k] at hrck
      clear hnat f1 f2 f3
      obtain ⟨p0, p1, p2, p3, p4⟩ := p
      unfold Pc.arr at hx1 hx2 hlr hck hrck hput hc5 hby hg ⊢
      dsimp only at hx1 hx2 hlr hck hrck hput hc5 hby hg ⊢
      have HLR := Lib.hid hlr
      have HCK := Lib.hid hck
      have HRCK := Lib.hid hrck
      have HPUT := Lib.hid hput
      have HBY := Lib.hid hby
      have HG := Lib.hid hg
      have HC5 : Hid (∀ (M : List HP) (w : World), Sat W w (pt q (.cells #[.int .i64 p0, .int .i64 p1, .int .i64 p2, .int .i64 p3, .string p4] 23) :: M) → _) := Lib.hid fun M w => hc5
      obtain ⟨d0, d1, d2, d3, d4⟩ := hc5 hx2.p1
      have HX2 := Lib.hid hx2
      clear hx1 hx2 hlr hck hrck hput hc5 h1 h2 k hB hby hg hT
      go_enter Tryz.func3, Tryz.ntmps3
      go_wp2_with (first
        | (go_at_call 9; refine HLR.out.mono ?_; rintro e w2 ⟨rfl, hw⟩; subst w2)
        | (go_at_call 11; refine (HPUT.out _ _ _ HX2.out).mono ?_; rintro e w3 ⟨rfl, hx3⟩; clear d0 d1 d2 d3 d4; obtain ⟨d0, d1, d2, d3, d4⟩ := HC5.out _ _ hx3.p1; have HX3 := Lib.hid hx3; clear hx3)
        | (go_at_call 12; refine (HRCK.out _).mono ?_; rintro e w4 ⟨rfl, hb4⟩; have hx4 := HX3.out.ofBelow hb4; clear d0 d1 d2 d3 d4; have HX4 := Lib.hid hx4; clear hx4 hb4)
        | (go_at_call 14; refine (HG.out _ _ _ HX4.out).mono ?_; rintro e w5 ⟨rfl, hx5⟩; obtain ⟨q5, hq5⟩ : ∃ q, w5.heap.size = q := ⟨_, rfl⟩; have hx5 := zp hx5; rw [hq5] at hx5; have HX5 := Lib.hid hx5; clear hx5)
        | (with_reducible refine wpList_store_pc HX5.out ⟨p0, p1, p2, p3, p4⟩ ?_ ?_; exact ⟨rfl, _, _, rfl, rfl, rfl⟩; intro w6 hx6; obtain ⟨d0, d1, d2, d3, d4⟩ := HC5.out _ _ hx6.p2; have HX6 := Lib.hid hx6; clear hx6)
        | (go_at_call 15; refine (HBY.out _ _ _ HX6.out).mono ?_; rintro e w7 ⟨rfl, hx7⟩; clear d0 d1 d2 d3 d4; obtain ⟨d0, d1, d2, d3, d4⟩ := HC5.out _ _ hx7.p2; have HX7 := Lib.hid hx7; clear hx7)
        | (go_at_call 13; refine (HCK.out _).mono ?_; rintro e w8 ⟨rfl, hb8⟩; have hx8 := HX7.out.ofBelow hb8; clear d0 d1 d2 d3 d4; obtain ⟨d0, d1, d2, d3, d4⟩ := HC5.out _ _ hx8.p2; obtain ⟨c0, c1, c2, c3, c4⟩ := pc5 (p := ⟨p0, p1, p2, p3, p4⟩) hx8; dsimp only at c0 c1 c2 c3 c4; have HX8 := Lib.hid hx8; clear hx8 hb8)
        | (go_at_call 10; refine (known_ok _).mono ?_; rintro e w' ⟨rfl, hb⟩))
      go_ret
      exact ⟨rfl, to_known HX8.out.p3 hb⟩
  · obtain ⟨p0, p1, p2, p3, p4⟩ := p
    unfold Pc.arr at hx1 hx2 hlr hc5 ⊢
    dsimp only at hx1 hx2 hlr hc5 ⊢
    have HLR := Lib.hid hlr
    obtain ⟨d0, d1, d2, d3, d4⟩ := hc5 hx2.p1
    have HX2 := Lib.hid hx2
    clear hx1 hx2 hlr hck hrck hput hc5 hB
    go_enter Tryz.func3, Tryz.ntmps3
    go_wp2_with (first
      | (go_at_call 9; refine HLR.out.mono ?_; rintro e w2 ⟨rfl, hw⟩; subst w2)
      | (go_at_call 10; refine (known_ok _).mono ?_; rintro e w' ⟨rfl, hb⟩))
    go_ret
    exact ⟨rfl, to_known HX2.out.p2 hb⟩
end Go.Proofs.YtmkpglabiikdeaaGreatDoor
