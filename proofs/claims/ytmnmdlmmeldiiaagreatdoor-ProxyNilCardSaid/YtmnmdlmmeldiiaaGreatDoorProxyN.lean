/-
  Layer 32: of no proxy there is nothing; no proxy stands over no disk.
-/
import Derived.Tactics
import Derived.Tactics2
import Derived.OwnWalk
import Derived.Test.YtmnmdlmmeldiiaaGreatDoorPost
import Derived.Test.YtmnmdlmmeldiiaaGreatDoorProg
namespace Go.Proofs.YtmnmdlmmeldiiaaGreatDoor
open Go.RowKit PH

theorem up_nil (W : World) : Calls Tryz.prog 12 #[.pointer none] W fun e w' => e = .returned (.bool false) ∧ w' = W := by
  go_enter Tryz.func12, Tryz.ntmps12
  go_wp2
  go_ret
  exact ⟨rfl, rfl⟩
theorem can_nil (n : Int) (W : World) : Calls Tryz.prog 22 #[.pointer none, .int .i64 n] W fun e w' => e = .returned (.bool false) ∧ w' = W := by
  go_enter Tryz.func22, Tryz.ntmps22
  go_wp2_with (go_at_call 12; refine (up_nil _).mono ?_; rintro e w2 ⟨rfl, rfl⟩)
  go_ret
  exact ⟨rfl, rfl⟩
theorem take_nil {E W : World} {L : List HP} (x : Sat E W L) (a b n : Int) (s : ByteArray) : Calls Tryz.prog 5 #[.pointer none, .agg #[.int .i64 a, .int .i64 b, .string s], .int .i64 n] W fun e w' => e = .returned (.slice none 0 0) ∧ Sat E w' L := by
  have HX := Lib.hid x
  clear x
  go_enter Tryz.func5, Tryz.ntmps5
  go_wp2_with (go_at_call 22; refine (can_nil _ _).mono ?_; rintro e w2 ⟨rfl, rfl⟩)
  go_ret
  exact ⟨rfl, (HX.out.alloc _).tail⟩
theorem tick_nil (n : Int) (W : World) : Calls Tryz.prog 6 #[.pointer none, .int .i64 n] W fun e w' => e = .returned (.slice none 0 0) ∧ w' = W := by
  go_enter Tryz.func6, Tryz.ntmps6
  go_wp2_with (go_at_call 22; refine (can_nil _ _).mono ?_; rintro e w2 ⟨rfl, rfl⟩)
  go_ret
  exact ⟨rfl, rfl⟩
theorem arm_nil (n : Int) (W : World) : Calls Tryz.prog 7 #[.pointer none, .int .i64 n] W fun e w' => e = .returned (.tuple #[]) ∧ w' = W := by
  go_enter Tryz.func7, Tryz.ntmps7
  go_wp2
  (try simp only [Exit.inBlock, Exit.then])
  refine bodyPost_end (results_none rfl _ _ _) rfl ?_
  exact ⟨rfl, rfl⟩
theorem crash_nil (l : Value) (W : World) : Calls Tryz.prog 8 #[.pointer none, l] W fun e w' => e = .returned (.tuple #[]) ∧ w' = W := by
  go_enter Tryz.func8, Tryz.ntmps8
  go_wp2
  (try simp only [Exit.inBlock, Exit.then])
  refine bodyPost_end (results_none rfl _ _ _) rfl ?_
  exact ⟨rfl, rfl⟩
theorem pblock_nil (s : ByteArray) (n : Int) (W : World) : Calls Tryz.prog 9 #[.pointer none, .string s, .int .i64 n] W fun e w' => e = .returned (.tuple #[.string ByteArray.empty, .bool false]) ∧ w' = W := by
  go_enter Tryz.func9, Tryz.ntmps9
  go_wp2_with (go_at_call 12; refine (up_nil _).mono ?_; rintro e w2 ⟨rfl, rfl⟩)
  go_ret2
  exact ⟨rfl, rfl⟩
theorem start_nil (W : World) : Calls Tryz.prog 13 #[.pointer none] W fun e w' => e = .returned (.int .i64 1) ∧ w' = W := by
  go_enter Tryz.func13, Tryz.ntmps13
  go_wp2
  go_ret
  exact ⟨rfl, rfl⟩
theorem pepoch_nil (W : World) : Calls Tryz.prog 14 #[.pointer none] W fun e w' => e = .returned (.int .i64 0) ∧ w' = W := by
  go_enter Tryz.func14, Tryz.ntmps14
  go_wp2_with (go_at_call 12; refine (up_nil _).mono ?_; rintro e w2 ⟨rfl, rfl⟩)
  go_ret
  exact ⟨rfl, rfl⟩
theorem waiting_nil (W : World) : Calls Tryz.prog 15 #[.pointer none] W fun e w' => e = .returned (.int .i64 0) ∧ w' = W := by
  go_enter Tryz.func15, Tryz.ntmps15
  go_wp2_with (go_at_call 12; refine (up_nil _).mono ?_; rintro e w2 ⟨rfl, rfl⟩)
  go_ret
  exact ⟨rfl, rfl⟩
abbrev cacheV : Value := .agg #[.slice none 0 0, .slice none 0 0, .slice none 0 0, .slice none 0 0]
theorem pcache_nil {E W : World} {L : List HP} (x : Sat E W L) : Calls Tryz.prog 16 #[.pointer none] W fun e w' => e = .returned cacheV ∧ Sat E w' L := by
  have HX := Lib.hid x
  clear x
  go_enter Tryz.func16, Tryz.ntmps16
  go_wp2_with (go_at_call 12; refine (up_nil _).mono ?_; rintro e w2 ⟨rfl, rfl⟩)
  (try simp only [Exit.inBlock, Exit.then])
  exact post_row rfl W.heap.size 47 _ (0, 0) _ rfl (heap_alloc_new W _) Tryz.underlying47 rfl (by kernel_rfl) rfl ⟨rfl, (HX.out.alloc _).tail⟩
set_option maxRecDepth 10000 in
theorem run_fieldCache (w : World) : (Instr.field 47 (.agg #[.slice none 0 0, .slice none 0 0, .slice none 0 0, .slice none 0 0]) 1).run Tryz.prog w = .ok (.slice none 0 0) w := by
  kernel_rfl
abbrev cfgV : Value := .agg #[.int .i64 1, .int .i64 1, .int .i64 0, .int .i64 1, .int .i64 16]
theorem config_nil {E W : World} {L : List HP} (x : Sat E W L) : Calls Tryz.prog 11 #[.int .u8 0] W fun e w' => e = .returned cfgV ∧ Sat E w' L := by
  have HX := Lib.hid x
  clear x
  go_enter Tryz.func11, Tryz.ntmps11
  go_wp2
  exact post_row rfl W.heap.size 38 _ (0, 0) _ rfl (heap_alloc_new W _) Tryz.underlying38 rfl (by kernel_rfl) rfl ⟨rfl, (HX.out.alloc _).tail⟩
theorem size_nil (W : World) : Calls Tryz.prog 175 #[.pointer none] W fun e w' => e = .returned (.int .i64 0) ∧ w' = W := by
  go_enter Tryz.func175, Tryz.ntmps175
  go_wp2
  go_ret
  exact ⟨rfl, rfl⟩
theorem fit_nil {E W : World} {L : List HP} (x : Sat E W L) : Calls Tryz.prog 92 #[.pointer none, cfgV] W fun e w' => e = .returned (.int .i64 1) ∧ Sat E w' L := by
  have HX := Lib.hid x
  clear x
  go_enter Tryz.func92, Tryz.ntmps92
  go_wp2_with (go_at_call 175; refine (size_nil _).mono ?_; rintro e w2 ⟨rfl, rfl⟩)
  go_ret
  exact ⟨rfl, (HX.out.alloc _).tail⟩
set_option maxRecDepth 100000 in
theorem format_nil {E W : World} {L : List HP} (x : Sat E W L) : Calls Tryz.prog 35 #[.pointer none, cfgV] W fun e w' => e = .returned (.int .i64 1) ∧ Sat E w' L := by
  have HX := Lib.hid x
  clear x
  go_enter Tryz.func35, Tryz.ntmps35
  go_wp2_with (go_at_call 92; refine (fit_nil ((HX.out.alloc _).alloc _)).mono ?_; rintro e w2 ⟨rfl, hx2⟩; have HX2 := Lib.hid hx2; clear hx2)
  go_ret
  exact ⟨rfl, HX2.out.tail.tail⟩
set_option maxRecDepth 100000 in
theorem new_nil {E W : World} {L : List HP} (x : Sat E W L) (a b : Int) (l : Value) : Calls Tryz.prog 10 #[.pointer none, cfgV, .int .i64 a, .int .i64 b, l] W fun e w' => e = .returned (.tuple #[.pointer none, .int .i64 1]) ∧ Sat E w' L := by
  have HX := Lib.hid x
  clear x
  go_enter Tryz.func10, Tryz.ntmps10
  go_wp2_with (go_at_call 35; refine (format_nil (HX.out.alloc _)).mono ?_; rintro e w2 ⟨rfl, hx2⟩; have hc : ∀ i, w2.cell? ⟨W.heap.size, i, none⟩ = _ := (fun i => cell_blk hx2.at i); have HX2 := Lib.hid hx2; clear hx2)
  go_ret2
  exact ⟨rfl, HX2.out.tail⟩
end Go.Proofs.YtmnmdlmmeldiiaaGreatDoor
