/-
  Layer 10: the fixed calls.
-/
import Derived.Test.YtmkpglabiikdeaaGreatDoorDiskO
namespace Go.Proofs.YtmkpglabiikdeaaGreatDoor
open Go.RowKit PH

def ka : ByteArray := ⟨#[97]⟩
def kb : ByteArray := ⟨#[98]⟩
def kD1 : Dk := { newD 2 with writes := 1, wait := [(pad ka, 0)] }
def kD2 : Dk := { newD 2 with writes := 2, wait := [(pad ka, 0), (pad kb, 1)] }
def kD3 : Dk := { newD 2 with writes := 2, kept := [zeros 128, pad kb] }
theorem known1 : writeD (newD 2) 0 ka = kD1 := by
  have h : thereE (newD 2) 0 = 0 := by decide
  unfold writeD
  rw [if_pos ⟨h, by decide⟩, if_neg (by decide)]
  rfl
theorem known2 : writeD kD1 1 kb = kD2 := by
  have h : thereE kD1 1 = 0 := by decide
  unfold writeD
  rw [if_pos ⟨h, by decide⟩, if_neg (by decide)]
  rfl
theorem known3 : crashD kD2 [1] = kD3 := by
  unfold crashD
  rw [if_pos (by decide)]
  rfl
theorem kw1 : writeE (newD 2) 0 ka = 0 := by decide
theorem kw2 : writeE kD1 1 kb = 0 := by decide
theorem kc : crashE kD2 = 0 := by decide
theorem kt1 : thereE kD3 1 = 0 := by decide
theorem kt0 : thereE kD3 0 = 0 := by decide
theorem kr1 : readV kD3 1 = pad kb := rfl
theorem kr0 : readV kD3 0 = zeros 128 := rfl

theorem okK1 : OkD kD1 := known1 ▸ (newD_ok (by omega)).write 0 ka (by decide) (by decide)
theorem okK2 : OkD kD2 := known2 ▸ okK1.write 1 kb (by decide) (by decide)
theorem okK3 : OkD kD3 := known3 ▸ okK2.crash [1]

theorem padb0 (h : 0 < (pad kb).size) : (pad kb)[0]'h = 98 := rfl
theorem zeros0 (h : 0 < (zeros 128).size) : (zeros 128)[0]'h = 0 := rfl
attribute [local irreducible] newD pad zeros writeD crashD readV kD1 kD2 kD3 writeE crashE thereE
theorem seesI_row {E W : World} {L : List HP} {q : Nat} {zs : List Int} (x : Sat E W (pt q (.cells (zs.map (Value.int .i64)).toArray 3) :: L)) : SeesI W (some ⟨q, 0, none⟩) zs := by
  intro j u hj
  refine ⟨q, 0, rfl, ?_⟩
  rw [Nat.zero_add, cell_blk x.at]
  simp [hj]

end Go.Proofs.YtmkpglabiikdeaaGreatDoor

