/-
  Layer 13: the fixed calls.
-/
import Derived.Test.YtmkpglabiikdeaaGreatHeadX
namespace Go.Proofs.YtmkpglabiikdeaaGreat
open Go.RowKit PH

theorem known_states : ∃ D1 D2, saveR (newD 2) 0 ⟨0, 1, 1, 0, 0, 1, 0⟩ = (⟨1, 1, 1, 0, 0, 1, 0⟩, 0, D1) ∧ InvH D1 ⟨1, 1, 1, 0, 0, 1, 0⟩ 1 ∧ saveR D1 0 ⟨0, 2, 1, 0, 0, 1, 0⟩ = (⟨2, 2, 1, 0, 0, 1, 0⟩, 0, D2) ∧ InvH D2 ⟨2, 2, 1, 0, 0, 1, 0⟩ 2 := by
  have I0 : InvH (newD 2) noHd 0 := invH_new (by omega) (by omega)
  obtain ⟨e1, I1⟩ := I0.put (h := ⟨1, 1, 1, 0, 0, 1, 0⟩) (by decide) (by decide) (by decide) (by omega)
  obtain ⟨e2, I2⟩ := I1.put (h := ⟨2, 2, 1, 0, 0, 1, 0⟩) (by decide) (by decide) (by decide) (by omega)
  exact ⟨_, _, (I0.save (h := ⟨0, 1, 1, 0, 0, 1, 0⟩) (by decide) (by decide)).trans e1, I1, (I1.save (h := ⟨0, 2, 1, 0, 0, 1, 0⟩) (by decide) (by decide)).trans e2, I2⟩
theorem InvH.rd {D : Dk} {was : Hd} {n : Nat} (I : InvH D was n) (i : Int) : (readV D i).size ≤ 9223372036854775807 := by
  have := I.reads D.fuse i
  exact this
theorem int64_small {a b c d e f g : Int} (h : (0 ≤ a ∧ a ≤ 9) ∧ (0 ≤ b ∧ b ≤ 9) ∧ (0 ≤ c ∧ c ≤ 9) ∧ (0 ≤ d ∧ d ≤ 9) ∧ (0 ≤ e ∧ e ≤ 9) ∧ (0 ≤ f ∧ f ≤ 9) ∧ (0 ≤ g ∧ g ≤ 9)) : Hd.Int64 ⟨a, b, c, d, e, f, g⟩ := by
  have k : ∀ n : Int, 0 ≤ n ∧ n ≤ 9 → inI n := fun n hn => ⟨by omega, by omega⟩
  exact ⟨k _ h.1, k _ h.2.1, k _ h.2.2.1, k _ h.2.2.2.1, k _ h.2.2.2.2.1, k _ h.2.2.2.2.2.1, k _ h.2.2.2.2.2.2⟩

set_option maxRecDepth 100000 in
set_option maxHeartbeats 1600000 in
theorem headKnown_ok (W : World) : Calls Tryz.prog 5 #[] W fun e w' => e = .returned (.bool true) ∧ Below W.heap.size W w' := by
  obtain ⟨D1, D2, e1, I1, e2, I2⟩ := known_states
  have I0 : InvH (newD 2) noHd 0 := invH_new (by omega) (by omega)
  have f0 : findR (newD 2) 0 = (noHd, 32) := I0.find
  have f2 : findR D2 0 = (⟨2, 2, 1, 0, 0, 1, 0⟩, 0) := I2.find
  have h64a : Hd.Int64 ⟨0, 1, 1, 0, 0, 1, 0⟩ := int64_small (by omega)
  have h64b : Hd.Int64 ⟨0, 2, 1, 0, 0, 1, 0⟩ := int64_small (by omega)
  have HN := Lib.hid (new_ok (n := 2) (Sat.start W) (by omega) (by omega))
  obtain ⟨D0, hD0⟩ : ∃ D, newD 2 = D := ⟨_, rfl⟩
  rw [hD0] at HN I0 e1 f0
  have F0 := Lib.hid f0
  have F2 := Lib.hid f2
  have E1 := Lib.hid e1
  have E2 := Lib.hid e2
  have J0 := Lib.hid I0
  have J1 := Lib.hid I1
  have J2 := Lib.hid I2
  have A64 := Lib.hid h64a
  have B64 := Lib.hid h64b
  clear hD0 f0 f2 e1 e2 I0 I1 I2 h64a h64b
  go_enter Tryz.func5, Tryz.ntmps5
  go_wp2_with (first
    | (go_at_call 6; refine HN.out.mono ?_; rintro e w1 ⟨b, rfl, hx1⟩; have HX1 := Lib.hid hx1; clear hx1 HN)
    | (go_at_call 14
       have hc := find_ok HX1.out J0.out.ok 0 (by omega) (by omega) J0.out.rd
       rw [F0.out] at hc
       dsimp only at hc
       with_reducible refine hc.mono ?_
       clear hc
       rintro e w2 ⟨rfl, hx2⟩
       obtain ⟨p1, hp1⟩ : ∃ p, w2.heap.size = p := ⟨_, rfl⟩
       have HX2 := Lib.hid (zx hx2)
       rw [hp1] at HX2
       clear hx2 HX1)
    | (with_reducible refine wpList_store_hd (HX2.out) (noHd) ?_ ?_; exact ⟨rfl, _, _, rfl, rfl, rfl⟩
       intro w3 hx3
       have HX3 := Lib.hid hx3.p1
       clear hx3 HX2)
    | (go_at_call 16
       have hc := save_ok (at_ := 0) HX3.out J0.out.ok (by omega) (by omega) J0.out.rd ⟨0, 1, 1, 0, 0, 1, 0⟩ A64.out (by have := J0.out.wr; omega) (by rw [J0.out.wl]; decide) (by have := J0.out.ba; omega)
       rw [E1.out, show Hd.cells ⟨0, 1, 1, 0, 0, 1, 0⟩ = #[.int .i64 0, .int .i64 1, .int .i64 1, .int .i64 0, .int .i64 0, .int .i64 1, .int .i64 0] from rfl] at hc
       dsimp only at hc
       with_reducible refine hc.mono ?_
       clear hc
       rintro e w4 ⟨rfl, hx4⟩
       obtain ⟨p2, hp2⟩ : ∃ p, w4.heap.size = p := ⟨_, rfl⟩
       have HX4 := Lib.hid (zx hx4)
       rw [hp2] at HX4
       clear hx4 HX3)
    | (with_reducible refine wpList_store_hd (HX4.out) (⟨1, 1, 1, 0, 0, 1, 0⟩) ?_ ?_; exact ⟨rfl, _, _, rfl, rfl, rfl⟩
       intro w5 hx5
       have HX5 := Lib.hid hx5.p1
       clear hx5 HX4)
    | (go_at_call 16
       have hc := save_ok (at_ := 0) HX5.out J1.out.ok (by omega) (by omega) J1.out.rd ⟨0, 2, 1, 0, 0, 1, 0⟩ B64.out (by have := J1.out.wr; omega) (by rw [J1.out.wl]; decide) (by have := J1.out.ba; omega)
       rw [E2.out, show Hd.cells ⟨0, 2, 1, 0, 0, 1, 0⟩ = #[.int .i64 0, .int .i64 2, .int .i64 1, .int .i64 0, .int .i64 0, .int .i64 1, .int .i64 0] from rfl] at hc
       dsimp only at hc
       with_reducible refine hc.mono ?_
       clear hc
       rintro e w6 ⟨rfl, hx6⟩
       obtain ⟨p3, hp3⟩ : ∃ p, w6.heap.size = p := ⟨_, rfl⟩
       have HX6 := Lib.hid (zx hx6)
       rw [hp3] at HX6
       clear hx6 HX5)
    | (with_reducible refine wpList_store_hd (HX6.out) (⟨2, 2, 1, 0, 0, 1, 0⟩) ?_ ?_; exact ⟨rfl, _, _, rfl, rfl, rfl⟩
       intro w7 hx7
       have HX7 := Lib.hid hx7.p1
       clear hx7 HX6)
    | (go_at_call 14
       have hc := find_ok HX7.out J2.out.ok 0 (by omega) (by omega) J2.out.rd
       rw [F2.out] at hc
       dsimp only at hc
       with_reducible refine hc.mono ?_
       clear hc
       rintro e w8 ⟨rfl, hx8⟩
       obtain ⟨p4, hp4⟩ : ∃ p, w8.heap.size = p := ⟨_, rfl⟩
       have HX8 := Lib.hid (zx hx8)
       rw [hp4] at HX8
       clear hx8 HX7)
    | (with_reducible refine wpList_store_hd (HX8.out) (⟨2, 2, 1, 0, 0, 1, 0⟩) ?_ ?_; exact ⟨rfl, _, _, rfl, rfl, rfl⟩
       intro w9 hx9
       obtain ⟨d0, d1, d2, d3, d4, d5, d6⟩ := hd7 hx9
       obtain ⟨c0, c1, c2, c3, c4, c5, c6⟩ := hd7 hx9.p2
       obtain ⟨b0, b1, b2, b3, b4, b5, b6⟩ := hd7 hx9.p3
       have HX9 := Lib.hid hx9
       clear hx9 HX8))
  go_ret
  exact ⟨rfl, HX9.out.tail.tail.tail.tail.tail.below⟩
end Go.Proofs.YtmkpglabiikdeaaGreat

