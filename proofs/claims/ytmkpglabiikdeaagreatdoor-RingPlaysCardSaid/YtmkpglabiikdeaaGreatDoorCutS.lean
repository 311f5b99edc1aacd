/-
  posthouse/piece.Cut in the words of ownership: the row of pieces is the caller's.
-/
import Derived.LoopNIn
import Derived.LoopIn
import Derived.Shelf.Abstract
import Derived.Shelf.RegionOpen
import Derived.Test.YtmkpglabiikdeaaGreatDoorCut
import Derived.Test.YtmkpglabiikdeaaGreatDoorRow
namespace Go.Proofs.YtmkpglabiikdeaaGreatDoor
open Go.RowKit PH
attribute [local go_sem] Oper.semAt_some

/-- Between two rounds: the box of 'out' holds v, a row of the pieces so far; the boxes of the arguments. -/
def cutJ (s : ByteArray) (b0 b8 : Nat) (n : Nat) (ep sq : Int) (pre : List (Nat × ByteArray)) : HP :=
  ex fun v : Value => seps [pt b8 (.cells #[v] 25), row 23 5 v pre.length (pcs (pre.map (pcOf n ep sq))), pt b0 (.cells #[.string s] 9), pt (b0 + 1) (.cells #[.int .i64 ep] 3), pt (b0 + 1 + 1) (.cells #[.int .i64 sq] 3)]
theorem cut_perm {E w : World} {B8 M V Q P S : HP} {L : List HP} (x : Sat E w (M :: B8 :: V :: Q :: P :: S :: L)) : Sat E w (B8 :: V :: S :: P :: Q :: M :: L) := x.p3.p4.p5.p5.p5

set_option maxRecDepth 100000 in
set_option maxHeartbeats 800000 in
theorem cutS_ok {E w : World} {L0 : List HP} (x0 : Sat E w L0) (s : ByteArray) (ep sq : Int) (hs : s.size ≤ 6400) (hn : nums ep sq = true) : Calls Tryz.prog 36 #[.string s, .int .i64 ep, .int .i64 sq] w fun e w' => ∃ g cap, e = .returned (.tuple #[.slice (some ⟨g, 0, none⟩) (npc s.size) cap, .int .i64 0]) ∧ Sat E w' (row 23 5 (.slice (some ⟨g, 0, none⟩) (npc s.size) cap) (npc s.size) (pcs (cutL s ep sq)) :: L0) := by
  refine (callsIn_wide (n := 3)).1 ?_
  refine callsIn_of_wp_marks Tryz.func36 rfl trivial ?_ rfl
  simp only [Tryz.ntmps36, List.size_toArray, List.length_cons, List.length_nil, Nat.reduceAdd, Nat.reduceSub, Array.replicate_succ, Array.replicate_zero, List.push_toArray, List.append_toArray, List.nil_append, List.cons_append]
  have hpc : npc s.size ≤ 64 := by unfold npc; omega
  gi_wp2_with (first
    | (refine ⟨trivial, ?_⟩; gi_at_call 45; refine (callsIn_wide.2 (numbers_ok _ _ _)).mono ?_; rintro e w' ⟨rfl, rfl⟩)
    | (refine ⟨trivial, ?_⟩; gi_at_call 75; refine (callsIn_wide.2 (pieces_ok _ _)).mono ?_; rintro e w' ⟨rfl, rfl⟩))
  have h0 := (((((x0.alloc (.cells #[.string s] 9)).alloc (.cells #[.int .i64 ep] 3)).alloc (.cells #[.int .i64 sq] 3)).rowNil 23 5).alloc (.cells #[.slice none 0 0] 25)).alloc (.cells #[.string s] 9)
  simp only [World.size_alloc] at h0
  refine wpIn_range (encs := fun x : Nat × ByteArray => #[.int .i64 x.1, .string x.2]) (gf := 94) (lb := #[.pointer (some ⟨w.heap.size + 1 + 1 + 1 + 1, 0, none⟩)]) (E := E) (L := L0) rfl (enters_of Tryz.func94 (by kernel_rfl) rfl)
    (pieces1_seq s hs (w.heap.size + 1 + 1 + 1 + 1)) (fun _ => rfl) (cutJ s w.heap.size (w.heap.size + 1 + 1 + 1) (npc s.size) ep sq) (fun _ _ => fact False)
    (fun pre x a' => fun h => a' = { tmps := List.toArray ((.string s : Value) :: .int .i64 ep :: .int .i64 sq :: .pointer (some ⟨w.heap.size, 0, none⟩) :: .pointer (some ⟨w.heap.size + 1, 0, none⟩) :: .pointer (some ⟨w.heap.size + 1 + 1, 0, none⟩) :: .slice none 0 0 :: .int .i64 0 :: .pointer (some ⟨w.heap.size + 1 + 1 + 1, 0, none⟩) :: .int .i64 x.1 :: .string x.2 :: .bool (decide (6400 < (s.size : Int))) :: .string s :: .int .i64 s.size :: .bool (decide (6400 < (s.size : Int))) :: .bool false :: .int .i64 ep :: .int .i64 sq :: .bool true :: .bool false :: .string s :: .func (.func 94) #[] #[.pointer (some ⟨w.heap.size + 1 + 1 + 1 + 1, 0, none⟩)] :: .int .i64 x.1 :: .string x.2 :: undef :: undef :: undef :: undef :: undef :: undef :: undef :: undef :: undef :: undef :: undef :: undef :: []), defers := [] } ∧ cutJ s w.heap.size (w.heap.size + 1 + 1 + 1) (npc s.size) ep sq pre h) ?h0 ?assign ?body ?done ?stop
  case h0 =>
    refine Sat.mkEx (A := fun v : Value => seps [pt (w.heap.size + 1 + 1 + 1) (.cells #[v] 25), row 23 5 v 0 [], pt w.heap.size (.cells #[.string s] 9), pt (w.heap.size + 1) (.cells #[.int .i64 ep] 3), pt (w.heap.size + 1 + 1) (.cells #[.int .i64 sq] 3)]) (.slice none 0 0) (Sat.pack [_, _, _, _, _] ?_)
    exact cut_perm h0
  case assign =>
    intro l m pre x W L K hx hK
    gi_wp2
    all_goals exact hK _ _ (hx.head fun h hh => ⟨rfl, hh⟩)
  case body =>
    intro l m pre x a' W L hlen hx
    have hx1 : a' = { tmps := List.toArray ((.string s : Value) :: .int .i64 ep :: .int .i64 sq :: .pointer (some ⟨w.heap.size, 0, none⟩) :: .pointer (some ⟨w.heap.size + 1, 0, none⟩) :: .pointer (some ⟨w.heap.size + 1 + 1, 0, none⟩) :: .slice none 0 0 :: .int .i64 0 :: .pointer (some ⟨w.heap.size + 1 + 1 + 1, 0, none⟩) :: .int .i64 x.1 :: .string x.2 :: .bool (decide (6400 < (s.size : Int))) :: .string s :: .int .i64 s.size :: .bool (decide (6400 < (s.size : Int))) :: .bool false :: .int .i64 ep :: .int .i64 sq :: .bool true :: .bool false :: .string s :: .func (.func 94) #[] #[.pointer (some ⟨w.heap.size + 1 + 1 + 1 + 1, 0, none⟩)] :: .int .i64 x.1 :: .string x.2 :: undef :: undef :: undef :: undef :: undef :: undef :: undef :: undef :: undef :: undef :: undef :: undef :: []), defers := [] } := hx.says fun _ h _ => h.1
    have hy : Sat E W (cutJ s w.heap.size (w.heap.size + 1 + 1 + 1) (npc s.size) ep sq pre :: L) := hx.head fun _ h => h.2
    clear hx
    subst hx1
    obtain ⟨v, hx⟩ := hy.ex
    have hx := hx.flat
    have g8 : W.drew.cell? ⟨w.heap.size + 1 + 1 + 1, 0, none⟩ = some v := cell_blk hx.drew.at 0
    have gr : W.drew.cell? ⟨w.heap.size, 0, none⟩ = some (.string s) := cell_blk hx.drew.p2.at 0
    have ge : W.drew.cell? ⟨w.heap.size + 1, 0, none⟩ = some (.int .i64 ep) := cell_blk hx.drew.p3.at 0
    have gq : W.drew.cell? ⟨w.heap.size + 1 + 1, 0, none⟩ = some (.int .i64 sq) := cell_blk hx.drew.p4.at 0
    clear h0
    gi_wp2
    refine wpIn_region_planL [(0, true), (1, true), (2, true), (3, true), (4, true), (5, true), (7, true), (6, false), (8, true), (9, false), (10, false), (11, false)]
      [(11, fun w1 => w1.cell? ⟨w.heap.size, 0, none⟩ = some (.string s) ∧ w1.cell? ⟨w.heap.size + 1, 0, none⟩ = some (.int .i64 ep) ∧ w1.cell? ⟨w.heap.size + 1 + 1, 0, none⟩ = some (.int .i64 sq)),
       (11, fun w1 => w1.cell? ⟨w.heap.size + 1 + 1 + 1, 0, none⟩ = some v)] (by kernel_rfl) (by kernel_rfl) ?_ (by kernel_rfl) (by intro c a d v w h; cases d <;> exact h) ?_ ?_
    · rintro ⟨a, w, h⟩; exact h
    · exact ⟨⟨gr, ge, gq⟩, g8, trivial⟩
    simp only [planOps, List.getElem?_cons_zero, List.getElem?_cons_succ]
    ((refine' plan_load 1 rfl (by kernel_rfl) rfl ?_ ?_; rotate_left; (intro w1 hw1; go_simp; with_reducible rfl)); simp only [Act.put, List.setIfInBounds_toArray, List.set_cons_zero, List.set_cons_succ])
    ((refine' plan_load 0 rfl (by kernel_rfl) rfl ?_ ?_; rotate_left; (intro w1 hw1; go_simp; with_reducible rfl)); simp only [Act.put, List.setIfInBounds_toArray, List.set_cons_zero, List.set_cons_succ])
    ((refine' plan_load 0 rfl (by kernel_rfl) rfl ?_ ?_; rotate_left; (intro w1 hw1; go_simp; with_reducible rfl)); simp only [Act.put, List.setIfInBounds_toArray, List.set_cons_zero, List.set_cons_succ])
    ((apply plan_pure rfl; (intro w1; go_simp; try go_bits); with_reducible rfl); simp only [Act.put, List.setIfInBounds_toArray, List.set_cons_zero, List.set_cons_succ])
    ((refine' plan_load 0 rfl (by kernel_rfl) rfl ?_ ?_; rotate_left; (intro w1 hw1; go_simp; with_reducible rfl)); simp only [Act.put, List.setIfInBounds_toArray, List.set_cons_zero, List.set_cons_succ])
    ((apply plan_pure rfl; (intro w1; go_simp; try go_bits); with_reducible rfl); simp only [Act.put, List.setIfInBounds_toArray, List.set_cons_zero, List.set_cons_succ])
    ((apply plan_pure rfl; (intro w1; go_simp; try go_bits); with_reducible rfl); simp only [Act.put, List.setIfInBounds_toArray, List.set_cons_zero, List.set_cons_succ])
    refine plan_loud rfl (fun K hK => ?_); go_simp
    refine (count_ok _ _).mono ?_
    rintro e w2 ⟨rfl, rfl⟩
    dsimp only
    have hcnt : count (s.size : Int) = (npc s.size : Int) := by unfold count npc; rw [if_neg (by omega)]; omega
    rw [hcnt]
    refine hK _ _ ⟨⟨gr, ge, gq⟩, g8, trivial⟩ ?_
    clear hK K hcnt
    ((apply plan_pure rfl; (intro w1; go_simp; try go_bits); with_reducible rfl); simp only [Act.put, List.setIfInBounds_toArray, List.set_cons_zero, List.set_cons_succ])
    refine plan_loud rfl (fun K hK => ?_); go_simp
    refine hK _ _ ⟨⟨cell_al gr, cell_al ge, cell_al gq⟩, cell_al g8, trivial⟩ ?_
    clear hK K
    refine plan_loud rfl (fun K hK => ?_)
    refine wp_app1 (E := E) (w := W.drew) (L := pt (w.heap.size + 1 + 1 + 1) (.cells #[v] 25) :: pt w.heap.size (.cells #[.string s] 9) :: pt (w.heap.size + 1) (.cells #[.int .i64 ep] 3) :: pt (w.heap.size + 1 + 1) (.cells #[.int .i64 sq] 3) :: L) _ _ 25 rfl hx.drew.p1 48 (.agg #[.int .i64 0, .int .i64 0, .int .i64 0, .int .i64 0, .string ByteArray.empty]) (by kernel_rfl) Tryz.underlying25 rfl rfl
      [.int .i64 ep, .int .i64 sq, .int .i64 x.1, .int .i64 (npc s.size), .string x.2] rfl rfl (by simp [Value.oneCell']) (by omega) (by omega) ?_
    intro v' w3 h3 hold
    obtain ⟨g', cap', rfl, -⟩ := h3.rowSees (by omega)
    have h3 := h3.p1
    have g8' : w3.cell? ⟨w.heap.size + 1 + 1 + 1, 0, none⟩ = some v := by rw [cell_blk h3.at]; rfl
    have f8' : w3.frozen? ⟨w.heap.size + 1 + 1 + 1, 0, none⟩ = false := frozen_blk h3.at 0
    refine hK _ _ ⟨⟨cell_blk h3.p2.at 0, cell_blk h3.p3.at 0, cell_blk h3.p4.at 0⟩, g8', trivial⟩ ?_
    clear hK K gr ge gq g8
    simp only [Act.put, List.setIfInBounds_toArray, List.set_cons_zero, List.set_cons_succ]
    refine plan_loud rfl (fun K hK => ?_); go_simp
    refine hK _ _ trivial (plan_nil ?_)
    gi_wp2
    show Sat _ _ _
    refine Sat.mkEx (A := fun v : Value => seps [pt (w.heap.size + 1 + 1 + 1) (.cells #[v] 25), row 23 5 v (pre ++ [x]).length (pcs ((pre ++ [x]).map (pcOf (npc s.size) ep sq))), pt w.heap.size (.cells #[.string s] 9), pt (w.heap.size + 1) (.cells #[.int .i64 ep] 3), pt (w.heap.size + 1 + 1) (.cells #[.int .i64 sq] 3)]) (.slice (some ⟨g', 0, none⟩) (pre.length + 1) cap') (Sat.pack [_, _, _, _, _] ?_)
    have h4 := (h3.setCell 0 (.slice (some ⟨g', 0, none⟩) (pre.length + 1) cap')).p1
    have hl2 : (pcs (pre.map (pcOf (npc s.size) ep sq)) ++ [Value.int .i64 ep, .int .i64 sq, .int .i64 x.1, .int .i64 (npc s.size), .string x.2]) = pcs ((pre ++ [x]).map (pcOf (npc s.size) ep sq)) := by
      simp [pcs, pcOf, Pc.cells]
    rw [hl2] at h4
    simpa using h4.p1
  case done =>
    rintro D _ W' rfl hx
    have hx := hx.p1.tail
    obtain ⟨v, hx⟩ := hx.ex
    have hx := hx.flat
    have g8 : W'.cell? ⟨w.heap.size + 1 + 1 + 1, 0, none⟩ = some v := by rw [cell_blk hx.at]; rfl
    have hp : 0 < npc s.size := by unfold npc; omega
    obtain ⟨g', cap', rfl, hcap, -, hgl, hsee⟩ := hx.p1.rowSees (by rw [chunks_len]; exact hp)
    rw [chunks_len] at g8 hx hcap
    gi_wp2
    refine post_mark hx.p5 (results_tmp2 rfl _ _ _) ?_
    rintro W2 hW2 hx2
    have hx3 := hx2.p1
    rw [show (chunks s (npc s.size)).map (pcOf (npc s.size) ep sq) = cutL s ep sq from rfl] at hx3
    exact ⟨g', cap', rfl, hx3.p1.tail.p1.tail.p1.tail.p1.tail⟩
  case stop => 
    rintro D c pre W' - hx
    exact hx.fact.1.elim
end Go.Proofs.YtmkpglabiikdeaaGreatDoor
