/-
  Layer 19: the law StoreNil, walked.
-/
import Derived.Test.YtnpkpbgfnfkadaaGreatDoorStoreO
import Derived.Test.YtnpkpbgfnfkadaaGreatDoorRecK
namespace Go.Proofs.YtnpkpbgfnfkadaaGreatDoor
open Go.RowKit PH

theorem known_ok (W : World) : Calls Tryz.prog 4 #[] W fun e w' => e = .returned (.bool true) ∧ Below W.heap.size W w' :=
  (PH.R.known_reck W).mono fun e w' h => by
    cases e <;> first | exact ⟨by rw [h.1], h.2⟩ | cases h
def TrueBelow (w : World) (e : Ending) (w' : World) : Prop := e = .returned (.bool true) ∧ Below w.heap.size w w'
theorem to_known {W w w' : World} {L : List HP} (x : Sat W w (heapIs W :: L)) (hb : Below w.heap.size w w') : Below W.heap.size W w' := (x.ofBelow hb).below
set_option maxRecDepth 100000 in
set_option maxHeartbeats 800000 in
theorem storeNil_ok (a : Option Addr) (len cap : Nat) (up : ByteArray) (no : Int) (W : World) (hs : up.size ≤ 9223372036854775807) : Calls Tryz.prog 3 #[.slice a len cap, .string up, .int .i64 no] W (TrueBelow W) := by
  by_cases h1 : 20 < len
  · go_enter Tryz.func3, Tryz.ntmps3
    go_wp2_with (go_at_call 4; refine (known_ok _).mono ?_; rintro e w' ⟨rfl, hb⟩)
    go_ret
    exact ⟨rfl, hb⟩
  · by_cases h2 : 100 < up.size
    · go_enter Tryz.func3, Tryz.ntmps3
      go_wp2_with (go_at_call 4; refine (known_ok _).mono ?_; rintro e w' ⟨rfl, hb⟩)
      go_ret
      exact ⟨rfl, hb⟩
    · go_enter Tryz.func3, Tryz.ntmps3
      go_wp2_with (first
        | (go_at_call 6; with_reducible refine (small_ok (Sat.start W)).mono ?_; rintro e w1 ⟨rfl, hx1⟩; have HX1 := Lib.hid hx1; clear hx1)
        | (go_at_call 5; with_reducible refine (open_nil HX1.out).mono ?_; rintro e w2 ⟨rfl, hx2⟩; have HX2 := Lib.hid hx2; clear hx2)
        | (go_at_call 7; with_reducible refine (get_nil _ _ _).mono ?_; rintro e w3 ⟨rfl, rfl⟩)
        | (go_at_call 8; with_reducible refine (cache_nil HX2.out).mono ?_; rintro e w4 ⟨rfl, hx4⟩; have HX4 := Lib.hid hx4; clear hx4)
        | (go_at_call 6; refine (small_ok (HX4.out.alloc _)).mono ?_; rintro e w5 ⟨rfl, hx5⟩; have HX5 := Lib.hid hx5; clear hx5)
        | (go_at_call 9; with_reducible refine (format_nil HX5.out).mono ?_; rintro e w6 ⟨rfl, hx6⟩; have HX6 := Lib.hid hx6; clear hx6)
        | (go_at_call 10; with_reducible refine (do_nil _ _).mono ?_; rintro e w7 ⟨rfl, rfl⟩)
        | (go_at_call 11; with_reducible refine (put_nil HX6.out _ _ _).mono ?_; rintro e w8 ⟨rfl, hx8⟩; have HX8 := Lib.hid hx8; clear hx8)
        | (go_at_call 12; with_reducible refine (barrier_nil _).mono ?_; rintro e w9 ⟨rfl, rfl⟩)
        | (go_at_call 13; with_reducible refine (checkpoint_nil HX8.out).mono ?_; rintro e w10 ⟨rfl, hx10⟩; have hc := cell_blk hx10.at; have HX10 := Lib.hid hx10; clear hx10)
        | (go_at_call 14; with_reducible refine (epoch_nil _).mono ?_; rintro e w11 ⟨rfl, rfl⟩)
        | (go_at_call 15; with_reducible refine (count_nil _).mono ?_; rintro e w12 ⟨rfl, rfl⟩)
        | (go_at_call 16; with_reducible refine (room_nil _).mono ?_; rintro e w13 ⟨rfl, rfl⟩)
        | (go_at_call 4; refine (known_ok _).mono ?_; rintro e w' ⟨rfl, hb⟩))
      go_ret
      exact ⟨rfl, to_known HX10.out.p1 hb⟩
end Go.Proofs.YtnpkpbgfnfkadaaGreatDoor
