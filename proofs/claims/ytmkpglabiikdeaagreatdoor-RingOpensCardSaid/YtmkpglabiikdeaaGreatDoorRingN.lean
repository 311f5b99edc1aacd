/-
  Layer 12: the law RingNil, walked.
-/
import Derived.Test.YtmkpglabiikdeaaGreatDoorRingG
namespace Go.Proofs.YtmkpglabiikdeaaGreatDoor
open Go.RowKit PH

def TrueBelow12 (w : World) (e : Ending) (w' : World) : Prop := e = .returned (.bool true) ∧ Below w.heap.size w w'
theorem to_known12 {W w w' : World} {L : List HP} (x : Sat W w (heapIs W :: L)) (hb : Below w.heap.size w w') : Below W.heap.size W w' := (x.ofBelow hb).below
theorem nil_dead : (barrierD (armD (newD 3) 0)).dead = true := by kernel_rfl
theorem nil_len : 0 < (barrierD (armD (newD 3) 0)).kept.length := by
  have : (barrierD (armD (newD 3) 0)).kept.length = 3 := by kernel_rfl
  omega
attribute [local irreducible] newD barrierD armD

set_option maxRecDepth 100000 in
set_option maxHeartbeats 800000 in
theorem ringNil_ok (s : ByteArray) (n : Int) (W : World) (hs : s.size ≤ 9223372036854775807) : Calls Tryz.prog 6 #[.string s, .int .i64 n] W (TrueBelow12 W) := by
  by_cases h1 : 1000 < s.size
  · go_enter Tryz.func6, Tryz.ntmps6
    go_wp2_with (go_at_call 19; refine (known12_ok _).mono ?_; rintro e w' ⟨rfl, hb⟩)
    go_ret
    exact ⟨rfl, hb⟩
  · have hd := nil_dead
    have hl := nil_len
    have hok : OkD (armD (newD 3) 0) := (newD_ok (by omega)).arm 0 (by omega)
    have hba : (armD (newD 3) 0).barriers < 1000000 := by
      have : (armD (newD 3) 0).barriers = 0 := by with_unfolding_all rfl
      omega
    have hnew := fun (x : Sat W W [heapIs W]) => new_ok (n := 3) x (by omega) (by omega)
    have harm : ∀ (b : Nat) (w : World), Sat W w (isDisk b (newD 3) :: [heapIs W]) → _ := fun b w y => arm_ok y 0
    have hbar : ∀ (b : Nat) (w : World), Sat W w (isDisk b (armD (newD 3) 0) :: [heapIs W]) → _ := fun b w y => barrier_ok y hok hba
    have hop : ∀ (b : Nat) (w : World), Sat W w (isDisk b (barrierD (armD (newD 3) 0)) :: [heapIs W]) → _ := fun b w y => open_down y hl hd 0 1 0 1 1 1
    obtain ⟨D0, h0⟩ : ∃ D, newD 3 = D := ⟨_, rfl⟩
    rw [h0] at hnew harm hbar hop
    obtain ⟨D1, h1'⟩ : ∃ D, armD D0 0 = D := ⟨_, rfl⟩
    rw [h1'] at harm hbar hop
    obtain ⟨D2, h2'⟩ : ∃ D, barrierD D1 = D := ⟨_, rfl⟩
    rw [h2'] at hbar hop
    have HNEW := Lib.hid hnew
    have HARM := Lib.hid harm
    have HBAR := Lib.hid hbar
    have HOP := Lib.hid hop
    clear hnew harm hbar hop h0 h1' h2' hd hl hok hba
    go_enter Tryz.func6, Tryz.ntmps6
    go_wp2_with (first
      | (go_at_call 23; refine (clear_nil _).mono ?_; rintro e w1 ⟨rfl, hw⟩; subst w1)
      | (go_at_call 17; refine (HNEW.out (Sat.start _)).mono ?_; rintro e w1 ⟨b, rfl, hx1⟩; have HX1 := Lib.hid hx1; clear hx1)
      | (go_at_call 24; refine (HARM.out _ _ HX1.out).mono ?_; rintro e w2 ⟨rfl, hx2⟩; have HX2 := Lib.hid hx2; clear hx2)
      | (go_at_call 25; refine (HBAR.out _ _ HX2.out).mono ?_; rintro e w3 ⟨rfl, hx3⟩; have HX3 := Lib.hid hx3; clear hx3)
      | (go_at_call 18; with_reducible refine (open_nil _ _ _ _ _ _).mono ?_; rintro e w4 ⟨rfl, hw⟩; subst w4)
      | (go_at_call 18; with_reducible refine (HOP.out _ _ HX3.out).mono ?_; rintro e w4 ⟨rfl, hw⟩; subst w4)
      | (go_at_call 26; refine (append_nil _ _).mono ?_; rintro e w4 ⟨rfl, hw⟩; subst w4)
      | (go_at_call 27; refine (fits_nil _ _).mono ?_; rintro e w4 ⟨rfl, hw⟩; subst w4)
      | (go_at_call 22; refine (next_nil _).mono ?_; rintro e w4 ⟨rfl, hw⟩; subst w4)
      | (go_at_call 21; refine (pos_nil _).mono ?_; rintro e w4 ⟨rfl, hw⟩; subst w4)
      | (go_at_call 20; refine (room_nil _).mono ?_; rintro e w4 ⟨rfl, hw⟩; subst w4)
      | (go_at_call 19; refine (known12_ok _).mono ?_; rintro e w' ⟨rfl, hb⟩))
    go_ret
    exact ⟨rfl, to_known12 HX3.out.p1 hb⟩
end Go.Proofs.YtmkpglabiikdeaaGreatDoor
