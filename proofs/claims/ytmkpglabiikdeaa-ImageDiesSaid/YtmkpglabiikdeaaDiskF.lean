/-
  Layer 10: the fixed calls.
-/
import Derived.Test.YtmkpglabiikdeaaDiskO
namespace Go.Proofs.Ytmkpglabiikdeaa
open Go.RowKit PH

def ka : ByteArray := ⟨#[97]⟩
def kb : ByteArray := ⟨#[98]⟩
def kD1 : Dk := { newD 2 with writes := 1, wait := [(pad ka, 0)] }
def kD2 : Dk := { newD 2 with writes := 2, wait := [(pad ka, 0), (pad kb, 1)] }
def kD3 : Dk := { newD 2 with writes := 2, kept := [zeros 128, pad kb] }
theorem known1 : writeD (newD 2) 0 ka = kD1 := by
  have h : thereE (newD 2) 0 = 0 := by decide
  unfold writeD
  rw [if_pos ⟨h, by decide⟩, if_neg (by decide)]
  rfl
theorem known2 : writeD kD1 1 kb = kD2 := by
  have h : thereE kD1 1 = 0 := by decide
  unfold writeD
  rw [if_pos ⟨h, by decide⟩, if_neg (by decide)]
  rfl
theorem known3 : crashD kD2 [1] = kD3 := by
  unfold crashD
  rw [if_pos (by decide)]
  rfl
theorem kw1 : writeE (newD 2) 0 ka = 0 := by decide
theorem kw2 : writeE kD1 1 kb = 0 := by decide
theorem kc : crashE kD2 = 0 := by decide
theorem kt1 : thereE kD3 1 = 0 := by decide
theorem kt0 : thereE kD3 0 = 0 := by decide
theorem kr1 : readV kD3 1 = pad kb := rfl
theorem kr0 : readV kD3 0 = zeros 128 := rfl

theorem okK1 : OkD kD1 := known1 ▸ (newD_ok (by omega)).write 0 ka (by decide) (by decide)
theorem okK2 : OkD kD2 := known2 ▸ okK1.write 1 kb (by decide) (by decide)
theorem okK3 : OkD kD3 := known3 ▸ okK2.crash [1]

theorem padb0 (h : 0 < (pad kb).size) : (pad kb)[0]'h = 98 := rfl
theorem zeros0 (h : 0 < (zeros 128).size) : (zeros 128)[0]'h = 0 := rfl
attribute [local irreducible] newD pad zeros writeD crashD readV kD1 kD2 kD3 writeE crashE thereE
theorem seesI_row {E W : World} {L : List HP} {q : Nat} {zs : List Int} (x : Sat E W (pt q (.cells (zs.map (Value.int .i64)).toArray 3) :: L)) : SeesI W (some ⟨q, 0, none⟩) zs := by
  intro j u hj
  refine ⟨q, 0, rfl, ?_⟩
  rw [Nat.zero_add, cell_blk x.at]
  simp [hj]

set_option maxRecDepth 100000 in
set_option maxHeartbeats 800000 in
theorem knownD_ok (W : World) : Calls Try.prog 27 #[] W fun e w' => e = .returned (.bool true) ∧ Below W.heap.size W w' := by
  obtain ⟨s1, hs1, z1, k1⟩ : ∃ s, pad kb = s ∧ s.size = 128 ∧ ∀ h : 0 < s.size, s[0]'h = 98 := ⟨_, rfl, pad_size (by decide), padb0⟩
  obtain ⟨s0, hs0, z0, k0⟩ : ∃ s, zeros 128 = s ∧ s.size = 128 ∧ ∀ h : 0 < s.size, s[0]'h = 0 := ⟨_, rfl, zeros_size _, zeros0⟩
  have K1 := Lib.hid k1
  have K0 := Lib.hid k0
  clear k1 k0
  have HN := Lib.hid (new_ok (n := 2) (Sat.start W) (by omega) (by omega))
  have HS1 := Lib.hid hs1
  have HS0 := Lib.hid hs0
  clear hs1 hs0
  go_enter Try.func27, Try.ntmps27
  go_wp2_with (first
    | (go_at_call 28; refine HN.out.mono ?_; rintro e w1 ⟨b, rfl, hx1⟩; have HX1 := Lib.hid hx1; clear hx1)
    | (go_at_call 32; refine (write_ok HX2.out okK1 1 kb (by decide)).mono ?_; rintro e w3 ⟨rfl, hx3⟩; rw [kw2]; rw [known2] at hx3; have HX3 := Lib.hid (hx3.alloc (.cells #[.int .i64 1] 3)).p1; clear hx3)
    | (go_at_call 32; refine (write_ok HX1.out (newD_ok (by omega)) 0 ka (by decide)).mono ?_; rintro e w2 ⟨rfl, hx2⟩; rw [kw1]; rw [known1] at hx2; have HX2 := Lib.hid hx2; clear hx2)
    | (go_at_call 30; refine (crash_ok (D := kD2) (c := 1) (zs := [1]) HX3.out okK2 (fun W' hW => seesI_row (zs := [1]) hW) (by decide)).mono ?_; rintro e w4 ⟨rfl, hx4⟩; rw [kc]; rw [known3] at hx4; have HX4 := Lib.hid hx4; clear hx4)
    | (go_at_call 35; refine (read_yes (D := kD3) HX5.out okK3 0 kt0).mono ?_; rintro e w6 ⟨rfl, hx6⟩; rw [kr0, HS0.out]; have HX6 := Lib.hid hx6; clear hx6)
    | (go_at_call 35; refine (read_yes (D := kD3) HX4.out okK3 1 kt1).mono ?_; rintro e w5 ⟨rfl, hx5⟩; rw [kr1, HS1.out]; have HX5 := Lib.hid hx5; clear hx5))
  · go_ret
    refine ⟨retB ?_, HX6.out.p2.below⟩
    rw [K0.out (by omega)]
    rfl
  · exfalso
    have h1 := K1.out (by omega)
    simp_all
end Go.Proofs.Ytmkpglabiikdeaa
