/-
  Layer 28: the document's Large, of one step.
-/
import Derived.Test.YtjmfclhilmmamaaGreatDoorShelfN
import Derived.RangeFuncNested
import Derived.RangeFuncBound
import Derived.OwnWalkIn
import Derived.TacticsInMore
import Derived.OrdersIn
namespace Go.Proofs.YtjmfclhilmmamaaGreatDoor
open Go.RowKit PH

set_option maxRecDepth 100000 in
set_option maxHeartbeats 800000 in
theorem large1 {W : World} {g : Nat} {up key name text : ByteArray} {a : Option Addr} {len cap : Nat} (c1 : W.cell? ⟨g, 1, none⟩ = some (.string up)) (c2 : W.cell? ⟨g, 2, none⟩ = some (.string key)) (c3 : W.cell? ⟨g, 3, none⟩ = some (.string name)) (c4 : W.cell? ⟨g, 4, none⟩ = some (.string text)) (c7 : W.cell? ⟨g, 7, none⟩ = some (.slice a len cap))
    (s1 : up.size ≤ 9223372036854775807) (s2 : key.size ≤ 9223372036854775807) (s3 : name.size ≤ 9223372036854775807) (s4 : text.size ≤ 9223372036854775807) : Calls Tryz.prog 8 #[.slice (some ⟨g, 0, none⟩) 1 1] W fun e w' => (e = .returned (.bool false) ∧ len ≤ 10 ∨ e = .returned (.bool true)) ∧ w' = W := by
  go_enter Tryz.func8, Tryz.ntmps8
  go_wp2
  go_loop [3] (fun i => ∃ k : Nat, k ≤ 1 ∧ i = .int .i64 k ∧ (1 ≤ k → len ≤ 10)) (fun i => 60 - (intOf i).toNat)
  case atStart => exact ⟨0, by omega, rfl, fun h => by omega⟩
  case round =>
    obtain ⟨k, hk, rfl, hl⟩ := hrel
    by_cases h1 : k < 1
    · obtain rfl : k = 0 := by omega
      by_cases h2 : 100 < up.size
      · go_wp2
        go_ret
        exact ⟨.inr rfl, rfl⟩
      · by_cases h3 : 100 < key.size
        · go_wp2
          go_ret
          exact ⟨.inr rfl, rfl⟩
        · by_cases h4 : 300 < name.size
          · go_wp2
            go_ret
            exact ⟨.inr rfl, rfl⟩
          · by_cases h5 : 300 < text.size
            · go_wp2
              go_ret
              exact ⟨.inr rfl, rfl⟩
            · by_cases h6 : 10 < len
              · go_wp2
                go_ret
                exact ⟨.inr rfl, rfl⟩
              · go_wp2
                go_round
                case rel => exact ⟨1, by omega, by go_num, fun _ => by omega⟩
                case measure => simp [intOf]
    · go_wp2
      go_ret
      exact ⟨.inl ⟨rfl, hl (by omega)⟩, rfl⟩
theorem large2 {W : World} {g : Nat} {up key name text : ByteArray} {a : Option Addr} {len cap : Nat} (c1 : W.cell? ⟨g, 1, none⟩ = some (.string up)) (c2 : W.cell? ⟨g, 2, none⟩ = some (.string key)) (c3 : W.cell? ⟨g, 3, none⟩ = some (.string name)) (c4 : W.cell? ⟨g, 4, none⟩ = some (.string text)) (c7 : W.cell? ⟨g, 7, none⟩ = some (.slice a len cap))
    (s1 : up.size ≤ 9223372036854775807) (s2 : key.size ≤ 9223372036854775807) (s3 : name.size ≤ 9223372036854775807) (s4 : text.size ≤ 9223372036854775807) : Calls Tryz.prog 8 #[.slice (some ⟨g, 0, none⟩) 1 1] W fun e w' => ∃ b, e = .returned (.bool b) ∧ (b = false → len ≤ 10) ∧ w' = W :=
  (large1 c1 c2 c3 c4 c7 s1 s2 s3 s4).mono fun e w' h => by
    rcases h with ⟨⟨h, k⟩ | h, e1⟩
    · exact ⟨false, h, fun _ => k, e1⟩
    · exact ⟨true, h, fun c => (by cases c), e1⟩
end Go.Proofs.YtjmfclhilmmamaaGreatDoor
