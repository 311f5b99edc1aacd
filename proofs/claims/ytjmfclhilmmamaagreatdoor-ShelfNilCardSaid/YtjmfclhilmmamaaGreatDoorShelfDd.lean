/-
  Layer 28: 'do' of no shelf.
-/
import Derived.Test.YtjmfclhilmmamaaGreatDoorShelfDa
namespace Go.Proofs.YtjmfclhilmmamaaGreatDoor
open Go.RowKit PH

set_option maxRecDepth 100000 in
set_option maxHeartbeats 1600000 in
theorem do14 {E W : World} {L : List HP} (x : Sat E W L) (up key name text : ByteArray) (n m : Int) (l : Value) : Calls Tryz.prog 9 #[.pointer none, .agg #[.int .i64 14, .string up, .string key, .string name, .string text, .int .i64 n, .int .i64 m, l]] W fun e w' => e = .returned (.agg (ansR 0)) ∧ Sat E w' L := by
  have HX := Lib.hid x
  clear x
  go_enter Tryz.func9, Tryz.ntmps9
  go_wp2_with (go_at_call 31; refine (data_nil (((HX.out.alloc _).alloc _).alloc _) _ _ _).mono ?_; rintro e w2 ⟨rfl, hx2⟩; have hc2 : ∀ i, w2.cell? ⟨W.heap.size + 1 + 1, i, none⟩ = (ansR 0)[i]? := (fun i => (by have h := cell_blk hx2.at i; simp only [World.size_alloc] at h; exact h)); have hf2 : ∀ i, w2.frozen? ⟨W.heap.size + 1 + 1, i, none⟩ = false := (fun i => (by have h := frozen_blk hx2.at i; simp only [World.size_alloc] at h; exact h)); have hc1 : ∀ i, w2.cell? ⟨W.heap.size + 1, i, none⟩ = (ansR 0)[i]? := (fun i => (by have h := cell_blk hx2.p1.at i; simp only [World.size_alloc] at h; exact h)); have hf1 : ∀ i, w2.frozen? ⟨W.heap.size + 1, i, none⟩ = false := (fun i => (by have h := frozen_blk hx2.p1.at i; simp only [World.size_alloc] at h; exact h)); have HX2 := Lib.hid hx2; clear hx2)
  (try simp only [Exit.inBlock, Exit.then])
  have y0 := HX2.out
  simp only [World.size_alloc] at y0
  have y := ((y0.setCell 1 (.string ByteArray.empty)).setCell 2 (.bool false)).p1
  have z := ((((((((((((((((y.setCell 0 (.int .i64 0)).setCell 1 (.string ByteArray.empty)).setCell 2 (.bool false)).setCell 3 (.int .i64 0)).setCell 4 (.int .i64 0)).setCell 5 (.string ByteArray.empty)).setCell 6 (.int .i64 0)).setCell 7 (.int .i64 0)).setCell 8 (.int .i64 0)).setCell 9 (.int .i64 0)).setCell 10 (.int .i64 0)).setCell 11 (.int .i64 0)).setCell 12 (.int .i64 0)).setCell 13 (.int .i64 0)).setCell 14 (.int .i64 0)).setCell 15 (.int .i64 0))
  exact post_row rfl (W.heap.size + 1) 37 _ (0, 0) _ rfl z.at Tryz.underlying37 rfl (by kernel_rfl) rfl ⟨rfl, z.tail.tail.tail⟩
set_option maxRecDepth 100000 in
set_option maxHeartbeats 1600000 in
theorem do15 {E W : World} {L : List HP} (x : Sat E W L) (up key name text : ByteArray) (n m : Int) (l : Value) : Calls Tryz.prog 9 #[.pointer none, .agg #[.int .i64 15, .string up, .string key, .string name, .string text, .int .i64 n, .int .i64 m, l]] W fun e w' => e = .returned (.agg (ansR 0)) ∧ Sat E w' L := by
  have HX := Lib.hid x
  clear x
  go_enter Tryz.func9, Tryz.ntmps9
  go_wp2_with (go_at_call 32; refine (block_nil (((HX.out.alloc _).alloc _).alloc _) _ _).mono ?_; rintro e w2 ⟨rfl, hx2⟩; have hc2 : ∀ i, w2.cell? ⟨W.heap.size + 1 + 1, i, none⟩ = (ansR 0)[i]? := (fun i => (by have h := cell_blk hx2.at i; simp only [World.size_alloc] at h; exact h)); have hf2 : ∀ i, w2.frozen? ⟨W.heap.size + 1 + 1, i, none⟩ = false := (fun i => (by have h := frozen_blk hx2.at i; simp only [World.size_alloc] at h; exact h)); have hc1 : ∀ i, w2.cell? ⟨W.heap.size + 1, i, none⟩ = (ansR 0)[i]? := (fun i => (by have h := cell_blk hx2.p1.at i; simp only [World.size_alloc] at h; exact h)); have hf1 : ∀ i, w2.frozen? ⟨W.heap.size + 1, i, none⟩ = false := (fun i => (by have h := frozen_blk hx2.p1.at i; simp only [World.size_alloc] at h; exact h)); have HX2 := Lib.hid hx2; clear hx2)
  (try simp only [Exit.inBlock, Exit.then])
  have y0 := HX2.out
  simp only [World.size_alloc] at y0
  have y := ((y0.setCell 1 (.string ByteArray.empty)).setCell 2 (.bool false)).p1
  have z := ((((((((((((((((y.setCell 0 (.int .i64 0)).setCell 1 (.string ByteArray.empty)).setCell 2 (.bool false)).setCell 3 (.int .i64 0)).setCell 4 (.int .i64 0)).setCell 5 (.string ByteArray.empty)).setCell 6 (.int .i64 0)).setCell 7 (.int .i64 0)).setCell 8 (.int .i64 0)).setCell 9 (.int .i64 0)).setCell 10 (.int .i64 0)).setCell 11 (.int .i64 0)).setCell 12 (.int .i64 0)).setCell 13 (.int .i64 0)).setCell 14 (.int .i64 0)).setCell 15 (.int .i64 0))
  exact post_row rfl (W.heap.size + 1) 37 _ (0, 0) _ rfl z.at Tryz.underlying37 rfl (by kernel_rfl) rfl ⟨rfl, z.tail.tail.tail⟩
end Go.Proofs.YtjmfclhilmmamaaGreatDoor
