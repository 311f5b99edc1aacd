/-
  The document's Large of a call and of a reply.
-/
import Derived.Tactics
import Derived.Tactics2
import Derived.OwnWalk
import Derived.Test.YtblikhdllpgeaaaGreatDoorPost
import Derived.Test.YtblikhdllpgeaaaGreatDoorProg
namespace Go.Proofs.YtblikhdllpgeaaaGreatDoor
open Go.RowKit PH
/-- Some truth. -/
def AnyB (e : Ending) : Prop := ∃ b : Bool, e = .returned (.bool b)
set_option maxRecDepth 100000 in
set_option maxHeartbeats 1600000 in
theorem callLarge_ok {E W : World} {L : List HP} (x : Sat E W L) (v0 : Int) (v1 : ByteArray) (v2 : ByteArray) (v3 : ByteArray) (v4 : ByteArray) (v5 : Int) (v6 : Int) (v7 : Int) (v8 : ByteArray) (v9 : Bool) (v10 : Int) (v11 : Bool) (v12 : Int) (v13 : Bool) (v14 : Int) (v15 : Bool) (v16 : Int) (v17 : Bool) (v18 : Int) (v19 : Bool) (v20 : Int) (v21 : Int) (v22 : Int) (v23 : ByteArray) (s1 : v1.size ≤ 9223372036854775807) (s2 : v2.size ≤ 9223372036854775807) (s3 : v3.size ≤ 9223372036854775807) (s4 : v4.size ≤ 9223372036854775807) (s8 : v8.size ≤ 9223372036854775807) (s23 : v23.size ≤ 9223372036854775807) : Calls Tryz.prog 4 #[.agg #[.int .i64 v0, .string v1, .string v2, .string v3, .string v4, .int .i64 v5, .int .i64 v6, .int .i64 v7, .string v8, .bool v9, .int .i64 v10, .bool v11, .int .i64 v12, .bool v13, .int .i64 v14, .bool v15, .int .i64 v16, .bool v17, .int .i64 v18, .bool v19, .int .i64 v20, .int .i64 v21, .int .i64 v22, .string v23]] W fun e w' => AnyB e ∧ Sat E w' L := by
  have HX := Lib.hid (x.alloc (.cells #[.int .i64 v0, .string v1, .string v2, .string v3, .string v4, .int .i64 v5, .int .i64 v6, .int .i64 v7, .string v8, .bool v9, .int .i64 v10, .bool v11, .int .i64 v12, .bool v13, .int .i64 v14, .bool v15, .int .i64 v16, .bool v17, .int .i64 v18, .bool v19, .int .i64 v20, .int .i64 v21, .int .i64 v22, .string v23] 29)).tail
  clear x
  go_enter Tryz.func4, Tryz.ntmps4
  go_wp2
  all_goals (go_ret; exact ⟨⟨_, rfl⟩, HX.out⟩)
end Go.Proofs.YtblikhdllpgeaaaGreatDoor
