/-
  posthouse/disk.Disk: the methods of no disk; Count.
-/
import Derived.Test.YtmkpglabiikdeaaDiskF
namespace Go.Proofs.Ytmkpglabiikdeaa
open Go.RowKit PH

theorem write_nil {W : World} (i : Int) (s : ByteArray) : Calls Try.prog 32 #[.pointer none, .int .i64 i, .string s] W fun e w' => e = .returned (.int .i64 1) ∧ w' = W := by
  go_enter Try.func32, Try.ntmps32
  go_wp2_with (go_at_call 69; refine (there_nil i).mono ?_; rintro e w2 ⟨rfl, rfl⟩)
  go_ret
  exact ⟨rfl, rfl⟩
theorem barrier_nil {W : World} : Calls Try.prog 34 #[.pointer none] W fun e w' => e = .returned (.int .i64 1) ∧ w' = W := by
  go_enter Try.func34, Try.ntmps34
  go_wp2_with (go_at_call 72; refine alive_nil.mono ?_; rintro e w2 ⟨rfl, rfl⟩)
  go_ret
  exact ⟨rfl, rfl⟩
theorem crash_nil {E W : World} {L : List HP} (x : Sat E W L) (v : Value) : Calls Try.prog 30 #[.pointer none, v] W fun e w' => e = .returned (.int .i64 1) ∧ Sat E w' L := by
  have HX := Lib.hid x
  clear x
  go_enter Try.func30, Try.ntmps30
  go_wp2_with (go_at_call 65; refine made_nil.mono ?_; rintro e w2 ⟨rfl, rfl⟩)
  all_goals go_ret
  all_goals exact ⟨rfl, (HX.out.alloc _).tail⟩
theorem image_nil {W : World} : Calls Try.prog 31 #[.pointer none] W fun e w' => e = .returned (.slice none 0 0) ∧ w' = W := by
  go_enter Try.func31, Try.ntmps31
  go_wp2_with (go_at_call 65; refine made_nil.mono ?_; rintro e w2 ⟨rfl, rfl⟩)
  go_ret
  exact ⟨rfl, rfl⟩
theorem count_nil {W : World} : Calls Try.prog 39 #[.pointer none] W fun e w' => e = .returned (.tuple #[.int .i64 0, .int .i64 0]) ∧ w' = W := by
  go_enter Try.func39, Try.ntmps39
  go_wp2_with (go_at_call 65; refine made_nil.mono ?_; rintro e w2 ⟨rfl, rfl⟩)
  go_ret2
  exact ⟨rfl, rfl⟩

set_option maxRecDepth 100000 in
set_option maxHeartbeats 400000 in
theorem count2_ok {E W : World} {L : List HP} {b : Nat} {D : Dk} (x : Sat E W (isDisk b D :: L)) (hm : madeB D = true) : Calls Try.prog 39 #[.pointer (some ⟨b, 0, none⟩)] W fun e w' => e = .returned (.tuple #[.int .i64 D.writes, .int .i64 D.barriers]) ∧ Sat E w' (isDisk b D :: L) := by
  have HX := Lib.hid x
  have HM := Lib.hid hm
  obtain ⟨ak, ck, aw, cw, hx, -, -⟩ := disk_open x
  obtain ⟨-, -, -, -, c4, c5, -⟩ := disk_cells hx
  clear x hx hm
  have e4 : W.drew.cell? ⟨b, 4, none⟩ = some (.int .i64 D.writes) := c4
  have e5 : W.drew.cell? ⟨b, 5, none⟩ = some (.int .i64 D.barriers) := c5
  have E4 := Lib.hid e4
  have E5 := Lib.hid e5
  clear e4 e5 c4 c5
  go_enter Try.func39, Try.ntmps39
  go_wp2_with (go_at_call 65; refine (made_ok HX.out).mono ?_; rintro e w2 ⟨rfl, rfl⟩; rw [HM.out])
  refine wp_region_planL [(0, true), (1, true), (2, true), (4, true), (5, true), (6, true), (3, false), (7, false), (8, true), (9, true)] [] (by kernel_rfl) (by kernel_rfl) (by intro c a d v w h; cases d <;> exact h) trivial ?_
  simp only [planOps, List.getElem?_cons_zero, List.getElem?_cons_succ]
  iterate 6 ((apply plan_pure rfl; (intro w1; go_simp; try go_bits); with_reducible rfl); try simp only [Act.put, List.setIfInBounds_toArray, List.set_cons_zero, List.set_cons_succ])
  refine plan_loud rfl (fun K hK => ?_); go_simp
  refine (load_ok E4.out).mono ?_
  rintro e w3 ⟨rfl, rfl⟩
  dsimp only
  refine hK _ _ trivial ?_
  clear hK K
  refine plan_loud rfl (fun K hK => ?_); go_simp
  refine (load_ok E5.out).mono ?_
  rintro e w3 ⟨rfl, rfl⟩
  dsimp only
  refine hK _ _ trivial ?_
  clear hK K
  try simp only [Act.put, List.setIfInBounds_toArray, List.set_cons_zero, List.set_cons_succ]
  iterate 2 ((apply plan_pure rfl; (intro w1; go_simp; try go_bits); with_reducible rfl); try simp only [Act.put, List.setIfInBounds_toArray, List.set_cons_zero, List.set_cons_succ])
  refine plan_nil ?_
  go_wp2
  go_ret2
  exact ⟨rfl, HX.out.drew⟩
end Go.Proofs.Ytmkpglabiikdeaa
