/-
  The document's Large of a call and of a reply.
-/
import Derived.Tactics
import Derived.Tactics2
import Derived.OwnWalk
import Derived.Test.YtmpfckdagibfiaaGreatDoorPost
import Derived.Test.YtmpfckdagibfiaaGreatDoorProg
namespace Go.Proofs.YtmpfckdagibfiaaGreatDoor
open Go.RowKit PH
/-- Some truth. -/
def AnyB (e : Ending) : Prop := ∃ b : Bool, e = .returned (.bool b)
set_option maxRecDepth 100000 in
set_option maxHeartbeats 1600000 in
theorem callLarge_ok {E W : World} {L : List HP} (x : Sat E W L) (v0 : Int) (v1 : ByteArray) (v2 : ByteArray) (v3 : ByteArray) (v4 : ByteArray) (v5 : Int) (v6 : Int) (v7 : Int) (v8 : ByteArray) (v9 : Bool) (v10 : Int) (v11 : Bool) (v12 : Int) (v13 : Bool) (v14 : Int) (v15 : Bool) (v16 : Int) (v17 : Bool) (v18 : Int) (v19 : Bool) (v20 : Int) (v21 : Int) (v22 : Int) (v23 : ByteArray) (s1 : v1.size ≤ 9223372036854775807) (s2 : v2.size ≤ 9223372036854775807) (s3 : v3.size ≤ 9223372036854775807) (s4 : v4.size ≤ 9223372036854775807) (s8 : v8.size ≤ 9223372036854775807) (s23 : v23.size ≤ 9223372036854775807) : Calls Tryz.prog 7 #[.agg #[.int .i64 v0, .string v1, .string v2, .string v3, .string v4, .int .i64 v5, .int .i64 v6, .int .i64 v7, .string v8, .bool v9, .int .i64 v10, .bool v11, .int .i64 v12, .bool v13, .int .i64 v14, .bool v15, .int .i64 v16, .bool v17, .int .i64 v18, .bool v19, .int .i64 v20, .int .i64 v21, .int .i64 v22, .string v23]] W fun e w' => AnyB e ∧ Sat E w' L := by
  have HX := Lib.hid (x.alloc (.cells #[.int .i64 v0, .string v1, .string v2, .string v3, .string v4, .int .i64 v5, .int .i64 v6, .int .i64 v7, .string v8, .bool v9, .int .i64 v10, .bool v11, .int .i64 v12, .bool v13, .int .i64 v14, .bool v15, .int .i64 v16, .bool v17, .int .i64 v18, .bool v19, .int .i64 v20, .int .i64 v21, .int .i64 v22, .string v23] 27)).tail
  clear x
  go_enter Tryz.func7, Tryz.ntmps7
  go_wp2
  all_goals (go_ret; exact ⟨⟨_, rfl⟩, HX.out⟩)
/-- A directory's entries that can be read: their names and handles. -/
def EntSrc (w : World) (a : Option Addr) (len : Nat) : Prop := ∀ k, k < len → ∃ (b o : Nat) (s t : ByteArray), a = some ⟨b, o, none⟩ ∧ w.cell? ⟨b, o + k * 15 + 1, none⟩ = some (.string s) ∧ w.cell? ⟨b, o + k * 15 + 14, none⟩ = some (.string t) ∧ s.size ≤ 9223372036854775807 ∧ t.size ≤ 9223372036854775807
theorem EntSrc.alloc {w : World} {a : Option Addr} {len : Nat} (h : EntSrc w a len) (o : Obj) : EntSrc (w.alloc o) a len := fun k hk => by
  obtain ⟨b, p, s, t, h1, h2, h3, h4⟩ := h k hk
  exact ⟨b, p, s, t, h1, cell_al h2, cell_al h3, h4⟩
set_option maxRecDepth 100000 in
set_option maxHeartbeats 1600000 in
theorem replyLarge_ok {E W : World} {L : List HP} (x : Sat E W L) (v0 : Int) (v1 : ByteArray) (v2 : Bool) (v3 : Int) (v4 : Int) (v5 : Int) (v6 : Int) (v7 : Int) (v8 : Int) (v9 : Int) (v10 : Int) (v11 : Int) (v12 : Int) (v13 : Bool) (v14 : Int) (v15 : Int) (v16 : Int) (v17 : Int) (v18 : Int) (v19 : Int) (v20 : Int) (v21 : Int) (v22 : Int) (v23 : Int) (v24 : Bool) (v25 : Int) (v26 : Bool) (v27 : Int) (v28 : Int) (v29 : Int) (v30 : Int) (v31 : Int) (v32 : Int) (v33 : Int) (v34 : Int) (v35 : Int) (v36 : Int) (v37 : Bool) (v38 : Int) (v39 : Bool) (v40 : Int) (v41 : Int) (v42 : Int) (v43 : Int) (v44 : Int) (v45 : Int) (v46 : Int) (v47 : Int) (v48 : Int) (v49 : Int) (v50 : Int) (v51 : Int) (v52 : Bool) (v53 : ByteArray) (v54 : Int) (v55 : Int) (v56 : Option Addr) (v56l v56c : Nat) (v57 : Option Addr) (v57l v57c : Nat) (s1 : v1.size ≤ 9223372036854775807) (s53 : v53.size ≤ 9223372036854775807) (he : EntSrc W v56 v56l) (hl : v56l ≤ 9223372036854775807) (hc : v57l ≤ 9223372036854775807) : Calls Tryz.prog 8 #[.agg #[.int .i64 v0, .string v1, .bool v2, .int .i64 v3, .int .i64 v4, .int .i64 v5, .int .i64 v6, .int .i64 v7, .int .i64 v8, .int .i64 v9, .int .i64 v10, .int .i64 v11, .int .i64 v12, .bool v13, .int .i64 v14, .int .i64 v15, .int .i64 v16, .int .i64 v17, .int .i64 v18, .int .i64 v19, .int .i64 v20, .int .i64 v21, .int .i64 v22, .int .i64 v23, .bool v24, .int .i64 v25, .bool v26, .int .i64 v27, .int .i64 v28, .int .i64 v29, .int .i64 v30, .int .i64 v31, .int .i64 v32, .int .i64 v33, .int .i64 v34, .int .i64 v35, .int .i64 v36, .bool v37, .int .i64 v38, .bool v39, .int .i64 v40, .int .i64 v41, .int .i64 v42, .int .i64 v43, .int .i64 v44, .int .i64 v45, .int .i64 v46, .int .i64 v47, .int .i64 v48, .int .i64 v49, .int .i64 v50, .int .i64 v51, .bool v52, .string v53, .int .i64 v54, .int .i64 v55, .slice v56 v56l v56c, .slice v57 v57l v57c]] W fun e w' => AnyB e ∧ Sat E w' L := by
  have HX := Lib.hid (x.alloc (.cells #[.int .i64 v0, .string v1, .bool v2, .int .i64 v3, .int .i64 v4, .int .i64 v5, .int .i64 v6, .int .i64 v7, .int .i64 v8, .int .i64 v9, .int .i64 v10, .int .i64 v11, .int .i64 v12, .bool v13, .int .i64 v14, .int .i64 v15, .int .i64 v16, .int .i64 v17, .int .i64 v18, .int .i64 v19, .int .i64 v20, .int .i64 v21, .int .i64 v22, .int .i64 v23, .bool v24, .int .i64 v25, .bool v26, .int .i64 v27, .int .i64 v28, .int .i64 v29, .int .i64 v30, .int .i64 v31, .int .i64 v32, .int .i64 v33, .int .i64 v34, .int .i64 v35, .int .i64 v36, .bool v37, .int .i64 v38, .bool v39, .int .i64 v40, .int .i64 v41, .int .i64 v42, .int .i64 v43, .int .i64 v44, .int .i64 v45, .int .i64 v46, .int .i64 v47, .int .i64 v48, .int .i64 v49, .int .i64 v50, .int .i64 v51, .bool v52, .string v53, .int .i64 v54, .int .i64 v55, .slice v56 v56l v56c, .slice v57 v57l v57c] 38)).tail
  have HE := Lib.hid (he.alloc (.cells #[.int .i64 v0, .string v1, .bool v2, .int .i64 v3, .int .i64 v4, .int .i64 v5, .int .i64 v6, .int .i64 v7, .int .i64 v8, .int .i64 v9, .int .i64 v10, .int .i64 v11, .int .i64 v12, .bool v13, .int .i64 v14, .int .i64 v15, .int .i64 v16, .int .i64 v17, .int .i64 v18, .int .i64 v19, .int .i64 v20, .int .i64 v21, .int .i64 v22, .int .i64 v23, .bool v24, .int .i64 v25, .bool v26, .int .i64 v27, .int .i64 v28, .int .i64 v29, .int .i64 v30, .int .i64 v31, .int .i64 v32, .int .i64 v33, .int .i64 v34, .int .i64 v35, .int .i64 v36, .bool v37, .int .i64 v38, .bool v39, .int .i64 v40, .int .i64 v41, .int .i64 v42, .int .i64 v43, .int .i64 v44, .int .i64 v45, .int .i64 v46, .int .i64 v47, .int .i64 v48, .int .i64 v49, .int .i64 v50, .int .i64 v51, .bool v52, .string v53, .int .i64 v54, .int .i64 v55, .slice v56 v56l v56c, .slice v57 v57l v57c] 38))
  clear x he
  go_enter Tryz.func8, Tryz.ntmps8
  go_wp2
  go_loop [3] (fun i => ∃ k : Nat, k ≤ v56l ∧ i = .int .i64 k) (fun i => 100 - (intOf i).toNat)
  case atStart => exact ⟨0, by omega, rfl⟩
  case round =>
    obtain ⟨k, hk, rfl⟩ := hrel
    by_cases h1 : k < v56l
    · by_cases h2 : k < 70
      · obtain ⟨b, p, s, t, rfl, c1, c14, z1, z14⟩ := HE.out k h1
        by_cases h3 : 300 < s.size
        · go_wp2
          all_goals (go_ret; exact ⟨⟨_, rfl⟩, HX.out⟩)
        · by_cases h4 : 80 < t.size
          · go_wp2
            all_goals (go_ret; exact ⟨⟨_, rfl⟩, HX.out⟩)
          · go_wp2
            go_round
            case rel => exact ⟨k + 1, by omega, by go_num⟩
            case measure => simp [intOf]; omega
      · go_wp2
        all_goals (go_ret; exact ⟨⟨_, rfl⟩, HX.out⟩)
    · go_wp2
      all_goals (go_ret; exact ⟨⟨_, rfl⟩, HX.out⟩)
end Go.Proofs.YtmpfckdagibfiaaGreatDoor
