/-
  posthouse/piece.Cut (a range over a function) and posthouseref11.Cut: the pieces of a record.
-/
import Derived.LoopNIn
import Derived.LoopIn
import Derived.Shelf.Abstract
import Derived.Shelf.RegionOpen
import Derived.Test.YtmkpglabiikdeaaGreatDoorJoin2
namespace Go.Proofs.YtmkpglabiikdeaaGreatDoor
open Go.RowKit PH
attribute [local go_sem] Oper.semAt_some

def npc (n : Nat) : Nat := max 1 ((n + 99) / 100)
def chunk (s : ByteArray) (i : Nat) : ByteArray := s.extract (100 * i) (min s.size (100 * i + 100))
def rest (s : ByteArray) (i : Nat) : ByteArray := s.extract (100 * i) s.size
def chunks (s : ByteArray) (k : Nat) : List (Nat × ByteArray) := (List.range k).map fun i => (i, chunk s i)

theorem chunk_last {s : ByteArray} {k m : Nat} (hm : s.size - 100 * k = m) (h1 : m ≤ 100) : (rest s k).extract 0 m = chunk s k := by
  unfold rest chunk
  rw [ByteArray.extract_extract]
  congr 1 <;> omega
theorem chunk_more {s : ByteArray} {k m : Nat} (_hm : s.size - 100 * k = m) (_h1 : 100 < m) : (rest s k).extract 0 100 = chunk s k := by
  unfold rest chunk
  rw [ByteArray.extract_extract]
  congr 1 <;> omega
theorem rest_more {s : ByteArray} {k m : Nat} (hm : s.size - 100 * k = m) (h1 : 100 < m) : (rest s k).extract 100 m = rest s (k + 1) := by
  unfold rest
  rw [ByteArray.extract_extract]
  congr 1 <;> omega
theorem chunks_succ (s : ByteArray) (k : Nat) : chunks s (k + 1) = chunks s k ++ [(k, chunk s k)] := by
  simp [chunks, List.range_succ]

set_option maxRecDepth 100000 in
set_option maxHeartbeats 400000 in
theorem pieces1_seq (s : ByteArray) (hs : s.size ≤ 6400) (br : Nat) :
    SeqSL Tryz.prog 94 #[.pointer (some ⟨br, 0, none⟩)] (fun x : Nat × ByteArray => #[.int .i64 x.1, .string x.2]) (pt br (.cells #[.string s] 9)) (fact True) (fun ys => ys = chunks s (npc s.size)) (fun _ => True) (npc s.size) := by
  intro l n E J Jx hY W L h0
  refine callsIn_of_wp Tryz.func94 rfl trivial ?_ rfl
  simp only [Tryz.ntmps94, List.size_toArray, List.length_cons, List.length_nil, Nat.reduceAdd, Nat.reduceSub, Array.replicate_succ, Array.replicate_zero, List.push_toArray, List.append_toArray, List.nil_append, List.cons_append]
  gi_wp2
  gi_loopw [3] (fun i wr => ∃ k : Nat, k < npc s.size ∧ i = .int .i64 k ∧ Sat E wr (J (chunks s k) :: pt br (.cells #[.string (rest s k)] 9) :: L)) (fun i _ => npc s.size - (intOf i).toNat)
  case atStart => exact ⟨0, by unfold npc; omega, rfl, by rw [show rest s 0 = s from by unfold rest; simp]; exact h0⟩
  case round =>
    obtain ⟨k, hk, rfl, hx⟩ := hrel
    have hc : wr.cell? ⟨br, 0, none⟩ = some (.string (rest s k)) := by rw [cell_blk hx.p1.at]; rfl
    have hf : wr.frozen? ⟨br, 0, none⟩ = false := frozen_blk hx.p1.at 0
    have hw := fun m => hY m (chunks s k) (k, chunk s k) wr _ (by simpa [chunks] using hk) hx
    obtain ⟨m, hm⟩ : ∃ m, s.size - 100 * k = m := ⟨_, rfl⟩
    obtain ⟨r, hr⟩ : ∃ r, rest s k = r := ⟨_, rfl⟩
    have hrs : r.size = m := by rw [← hr]; simp [rest]; exact hm
    rw [hr] at hc
    have HR := Lib.hid hr
    have HM := Lib.hid hm
    have hm2 : m ≤ 6400 := by omega
    have hk' := hk
    unfold npc at hk'
    have hk2 : k ≤ 64 := by omega
    clear hk'
    clear hr hm
    by_cases hlast : m ≤ 100
    · have hmin : min (m : Int) 100 = (m : Int) := by omega
      have he : r.extract 0 m = chunk s k := by rw [← HR.out]; exact chunk_last HM.out hlast
      obtain ⟨fn, tmps, assign, body, hy, hR⟩ := hw (n - 1)
      have HY := Lib.hid hy
      have HE := Lib.hid he
      clear hy hw he
      have hkl : k + 1 = npc s.size := by have := HM.out; unfold npc at hk ⊢; omega
      gi_wp2
      rw [HE.out, HY.out]
      go_simp
      refine ⟨fun h => by simp [Fence.wide] at h, hR.mono ?_⟩
      rintro e W' (⟨rfl, h1⟩ | ⟨rfl, h1⟩)
      · have hc : W'.cell? ⟨br, 0, none⟩ = some (.string (rest s k)) := by rw [cell_blk h1.p1.at]; rfl
        rw [HR.out] at hc
        gi_wp2
        refine bodyPost_ret (results_none rfl _ _ _) rfl ?_
        exact ⟨⟨_, rfl⟩, .inl ⟨_, by rw [← hkl, chunks_succ], (h1.p1.tail.mkFact trivial).p1⟩⟩
      · gi_wp2
        refine bodyPost_ret (results_none rfl _ _ _) rfl ?_
        exact ⟨⟨_, rfl⟩, .inr ⟨_, trivial, (h1.p1.tail.mkFact trivial).p1⟩⟩
    · have hmin : min (m : Int) 100 = 100 := by omega
      have he : r.extract 0 100 = chunk s k := by rw [← HR.out]; exact chunk_more HM.out (by omega)
      obtain ⟨fn, tmps, assign, body, hy, hR⟩ := hw (n - 1)
      have HY := Lib.hid hy
      have HE := Lib.hid he
      clear hy hw he
      gi_wp2
      rw [HE.out, HY.out]
      go_simp
      refine ⟨fun h => by simp [Fence.wide] at h, hR.mono ?_⟩
      rintro e W' (⟨rfl, h1⟩ | ⟨rfl, h1⟩)
      · have hc : W'.cell? ⟨br, 0, none⟩ = some (.string (rest s k)) := by rw [cell_blk h1.p1.at]; rfl
        have hf : W'.frozen? ⟨br, 0, none⟩ = false := frozen_blk h1.p1.at 0
        rw [HR.out] at hc
        have hmb : ((100 : Int) == (m : Int)) = false := beq_eq_false_iff_ne.2 (by omega)
        gi_wp2
        refine ⟨⟨k + 1, by have := HM.out; unfold npc at hk ⊢; omega, by go_num, ?_⟩, by simp [intOf]; omega⟩
        rw [chunks_succ]
        have h2 := (h1.p1.setCell 0 (.string (r.extract 100 m))).p1
        have he2 : r.extract 100 m = rest s (k + 1) := by rw [← HR.out]; exact rest_more HM.out (by omega)
        rw [he2] at h2 ⊢
        exact h2
      · gi_wp2
        refine bodyPost_ret (results_none rfl _ _ _) rfl ?_
        exact ⟨⟨_, rfl⟩, .inr ⟨_, trivial, (h1.p1.tail.mkFact trivial).p1⟩⟩

theorem pieces_ok (s : ByteArray) (w : World) : Calls Tryz.prog 75 #[.string s] w fun e w' =>
    e = .returned (.func (.func 94) #[] #[.pointer (some ⟨w.heap.size, 0, none⟩)]) ∧ w' = w.alloc (.cells #[.string s] 9) := by
  go_enter Tryz.func75, Tryz.ntmps75
  go_wp2
  go_ret
  exact ⟨rfl, rfl⟩

def pcOf (n : Int) (e q : Int) (x : Nat × ByteArray) : Pc := ⟨e, q, x.1, n, x.2⟩
/-- The pieces of a record. -/
def cutL (s : ByteArray) (e q : Int) : List Pc := (chunks s (npc s.size)).map (pcOf (npc s.size) e q)

/-- What Cut hands back: a slice of pieces in memory of its own. -/
def CutPost (w : World) (l : List Pc) (err : Int) (e : Ending) (w' : World) : Prop :=
  ∃ a c, e = .returned (.tuple #[.slice a l.length c, .int .i64 err]) ∧ Sees w' a (pcs l) ∧ Below w.heap.size w w' ∧ l.length ≤ c
theorem CutPost.nil {w w' : World} {err : Int} (h : Below w.heap.size w w') : CutPost w [] err (.returned (.tuple #[.slice none 0 0, .int .i64 err])) w' :=
  ⟨none, 0, rfl, fun j u hj => by simp [pcs] at hj, h, Nat.le_refl _⟩

set_option maxHeartbeats 400000 in
theorem cut_long (s : ByteArray) (ep sq : Int) (w : World) (hs : 6400 < s.size) (hs2 : s.size ≤ 9223372036854775807) : Calls Tryz.prog 36 #[.string s, .int .i64 ep, .int .i64 sq] w (CutPost w [] 4) := by
  go_enter Tryz.func36, Tryz.ntmps36
  go_wp2
  go_ret2
  exact CutPost.nil ((((Below.refl _ _).alloc (Nat.le_refl _) _).alloc (by simp) _).alloc (by simp; omega) _)
set_option maxHeartbeats 400000 in
theorem cut_nums (s : ByteArray) (ep sq : Int) (w : World) (hs : s.size ≤ 6400) (hn : nums ep sq = false) : Calls Tryz.prog 36 #[.string s, .int .i64 ep, .int .i64 sq] w (CutPost w [] 3) := by
  go_enter Tryz.func36, Tryz.ntmps36
  go_wp2_with (go_at_call 45; refine (numbers_ok _ _ _).mono ?_; rintro e w' ⟨rfl, rfl⟩)
  go_ret2
  exact CutPost.nil ((((Below.refl _ _).alloc (Nat.le_refl _) _).alloc (by simp) _).alloc (by simp; omega) _)

theorem chunks_len (s : ByteArray) (k : Nat) : (chunks s k).length = k := by simp [chunks]

/-- Between two rounds: the box of 'out' holds v, a row of the pieces so far; below, all is as it was. -/
def cutI (W1 : World) (b8 : Nat) (n : Nat) (ep sq : Int) (pre : List (Nat × ByteArray)) : HP :=
  ex fun v : Value => seps [pt b8 (.cells #[v] 25), row 23 5 v pre.length (pcs (pre.map (pcOf n ep sq))), heapIs W1]

set_option maxRecDepth 100000 in
set_option maxHeartbeats 800000 in
theorem cut_ok (s : ByteArray) (ep sq : Int) (w : World) (hs : s.size ≤ 6400) (hn : nums ep sq = true) : Calls Tryz.prog 36 #[.string s, .int .i64 ep, .int .i64 sq] w (CutPost w (cutL s ep sq) 0) := by
  refine (callsIn_wide (n := 3)).1 ?_
  refine callsIn_of_wp_marks Tryz.func36 rfl trivial ?_ rfl
  simp only [Tryz.ntmps36, List.size_toArray, List.length_cons, List.length_nil, Nat.reduceAdd, Nat.reduceSub, Array.replicate_succ, Array.replicate_zero, List.push_toArray, List.append_toArray, List.nil_append, List.cons_append]
  have hpc : npc s.size ≤ 64 := by unfold npc; omega
  gi_wp2_with (first
    | (refine ⟨trivial, ?_⟩; gi_at_call 45; refine (callsIn_wide.2 (numbers_ok _ _ _)).mono ?_; rintro e w' ⟨rfl, rfl⟩)
    | (refine ⟨trivial, ?_⟩; gi_at_call 75; refine (callsIn_wide.2 (pieces_ok _ _)).mono ?_; rintro e w' ⟨rfl, rfl⟩))
  obtain ⟨W1, hW1, hr, he, hq⟩ : ∃ W1, ((w.alloc (.cells #[.string s] 9)).alloc (.cells #[.int .i64 ep] 3)).alloc (.cells #[.int .i64 sq] 3) = W1 ∧
      W1.cell? ⟨w.heap.size, 0, none⟩ = some (.string s) ∧ W1.cell? ⟨w.heap.size + 1, 0, none⟩ = some (.int .i64 ep) ∧ W1.cell? ⟨w.heap.size + 1 + 1, 0, none⟩ = some (.int .i64 sq) := ⟨_, rfl, by go_simp, by go_simp, by go_simp⟩
  have hz : W1.heap.size = w.heap.size + 1 + 1 + 1 := by rw [← hW1]; simp
  have hbW : Below w.heap.size w W1 := by rw [← hW1]; exact (((Below.refl _ _).alloc (Nat.le_refl _) _).alloc (by simp) _).alloc (by simp; omega) _
  rw [hW1]
  have h0 := ((((Sat.start W1).rowNil 23 5).alloc (.cells #[.slice none 0 0] 25)).alloc (.cells #[.string s] 9))
  rw [World.size_alloc, hz] at h0
  refine wpIn_range (encs := fun x : Nat × ByteArray => #[.int .i64 x.1, .string x.2]) (gf := 94) (lb := #[.pointer (some ⟨w.heap.size + 1 + 1 + 1 + 1, 0, none⟩)]) (E := W1) (L := []) rfl (enters_of Tryz.func94 (by kernel_rfl) rfl)
    (pieces1_seq s hs (w.heap.size + 1 + 1 + 1 + 1)) (fun _ => rfl) (cutI W1 (w.heap.size + 1 + 1 + 1) (npc s.size) ep sq) (fun _ _ => fact False)
    (fun pre x a' => fun h => a' = { tmps := List.toArray ((.string s : Value) :: .int .i64 ep :: .int .i64 sq :: .pointer (some ⟨w.heap.size, 0, none⟩) :: .pointer (some ⟨w.heap.size + 1, 0, none⟩) :: .pointer (some ⟨w.heap.size + 1 + 1, 0, none⟩) :: .slice none 0 0 :: .int .i64 0 :: .pointer (some ⟨w.heap.size + 1 + 1 + 1, 0, none⟩) :: .int .i64 x.1 :: .string x.2 :: .bool (decide (6400 < (s.size : Int))) :: .string s :: .int .i64 s.size :: .bool (decide (6400 < (s.size : Int))) :: .bool false :: .int .i64 ep :: .int .i64 sq :: .bool true :: .bool false :: .string s :: .func (.func 94) #[] #[.pointer (some ⟨w.heap.size + 1 + 1 + 1 + 1, 0, none⟩)] :: .int .i64 x.1 :: .string x.2 :: undef :: undef :: undef :: undef :: undef :: undef :: undef :: undef :: undef :: undef :: undef :: undef :: []), defers := [] } ∧ cutI W1 (w.heap.size + 1 + 1 + 1) (npc s.size) ep sq pre h) ?h0 ?assign ?body ?done ?stop
  case h0 =>
    refine Sat.mkEx (A := fun v : Value => seps [pt (w.heap.size + 1 + 1 + 1) (.cells #[v] 25), row 23 5 v 0 [], heapIs W1]) (.slice none 0 0) (Sat.pack [_, _, _] ?_)
    exact h0.p3.p3.p3
  case assign =>
    intro l m pre x W L K hx hK
    gi_wp2
    all_goals exact hK _ _ (hx.head fun h hh => ⟨rfl, hh⟩)
  case body =>
    intro l m pre x a' W L hlen hx
    have hx1 : a' = { tmps := List.toArray ((.string s : Value) :: .int .i64 ep :: .int .i64 sq :: .pointer (some ⟨w.heap.size, 0, none⟩) :: .pointer (some ⟨w.heap.size + 1, 0, none⟩) :: .pointer (some ⟨w.heap.size + 1 + 1, 0, none⟩) :: .slice none 0 0 :: .int .i64 0 :: .pointer (some ⟨w.heap.size + 1 + 1 + 1, 0, none⟩) :: .int .i64 x.1 :: .string x.2 :: .bool (decide (6400 < (s.size : Int))) :: .string s :: .int .i64 s.size :: .bool (decide (6400 < (s.size : Int))) :: .bool false :: .int .i64 ep :: .int .i64 sq :: .bool true :: .bool false :: .string s :: .func (.func 94) #[] #[.pointer (some ⟨w.heap.size + 1 + 1 + 1 + 1, 0, none⟩)] :: .int .i64 x.1 :: .string x.2 :: undef :: undef :: undef :: undef :: undef :: undef :: undef :: undef :: undef :: undef :: undef :: undef :: []), defers := [] } := hx.says fun _ h _ => h.1
    have hy : Sat W1 W (cutI W1 (w.heap.size + 1 + 1 + 1) (npc s.size) ep sq pre :: L) := hx.head fun _ h => h.2
    clear hx
    subst hx1
    obtain ⟨v, hx⟩ := hy.ex
    have hx := hx.flat
    have hB := hx.p2.below
    have g8 : W.cell? ⟨w.heap.size + 1 + 1 + 1, 0, none⟩ = some v := by rw [cell_blk hx.at]; rfl
    have gr : W.cell? ⟨w.heap.size, 0, none⟩ = some (.string s) := by rw [hB.cell (World.block_lt_of_cell? _ _ hr)]; exact hr
    have ge : W.cell? ⟨w.heap.size + 1, 0, none⟩ = some (.int .i64 ep) := by rw [hB.cell (World.block_lt_of_cell? _ _ he)]; exact he
    have gq : W.cell? ⟨w.heap.size + 1 + 1, 0, none⟩ = some (.int .i64 sq) := by rw [hB.cell (World.block_lt_of_cell? _ _ hq)]; exact hq
    have HB := Lib.hid hB
    have GR := Lib.hid hr
    have GE := Lib.hid he
    have GQ := Lib.hid hq
    clear hB hr he hq h0 hW1
    gi_wp2
    refine wpIn_region_planL [(0, true), (1, true), (2, true), (3, true), (4, true), (5, true), (7, true), (6, false), (8, true), (9, false), (10, false), (11, false)]
      [(11, fun w1 => w1.cell? ⟨w.heap.size, 0, none⟩ = some (.string s) ∧ w1.cell? ⟨w.heap.size + 1, 0, none⟩ = some (.int .i64 ep) ∧ w1.cell? ⟨w.heap.size + 1 + 1, 0, none⟩ = some (.int .i64 sq)),
       (11, fun w1 => w1.cell? ⟨w.heap.size + 1 + 1 + 1, 0, none⟩ = some v)] (by kernel_rfl) (by kernel_rfl) ?_ (by kernel_rfl) (by intro c a d v w h; cases d <;> exact h) ?_ ?_
    · rintro ⟨a, w, h⟩; exact h
    · exact ⟨⟨gr, ge, gq⟩, g8, trivial⟩
    simp only [planOps, List.getElem?_cons_zero, List.getElem?_cons_succ]
    ((refine' plan_load 1 rfl (by kernel_rfl) rfl ?_ ?_; rotate_left; (intro w1 hw1; go_simp; with_reducible rfl)); simp only [Act.put, List.setIfInBounds_toArray, List.set_cons_zero, List.set_cons_succ])
    ((refine' plan_load 0 rfl (by kernel_rfl) rfl ?_ ?_; rotate_left; (intro w1 hw1; go_simp; with_reducible rfl)); simp only [Act.put, List.setIfInBounds_toArray, List.set_cons_zero, List.set_cons_succ])
    ((refine' plan_load 0 rfl (by kernel_rfl) rfl ?_ ?_; rotate_left; (intro w1 hw1; go_simp; with_reducible rfl)); simp only [Act.put, List.setIfInBounds_toArray, List.set_cons_zero, List.set_cons_succ])
    ((apply plan_pure rfl; (intro w1; go_simp; try go_bits); with_reducible rfl); simp only [Act.put, List.setIfInBounds_toArray, List.set_cons_zero, List.set_cons_succ])
    ((refine' plan_load 0 rfl (by kernel_rfl) rfl ?_ ?_; rotate_left; (intro w1 hw1; go_simp; with_reducible rfl)); simp only [Act.put, List.setIfInBounds_toArray, List.set_cons_zero, List.set_cons_succ])
    ((apply plan_pure rfl; (intro w1; go_simp; try go_bits); with_reducible rfl); simp only [Act.put, List.setIfInBounds_toArray, List.set_cons_zero, List.set_cons_succ])
    ((apply plan_pure rfl; (intro w1; go_simp; try go_bits); with_reducible rfl); simp only [Act.put, List.setIfInBounds_toArray, List.set_cons_zero, List.set_cons_succ])
    refine plan_loud rfl (fun K hK => ?_); go_simp
    refine (count_ok _ _).mono ?_
    rintro e w2 ⟨rfl, rfl⟩
    dsimp only
    have hcnt : count (s.size : Int) = (npc s.size : Int) := by unfold count npc; rw [if_neg (by omega)]; omega
    rw [hcnt]
    refine hK _ _ ⟨⟨gr, ge, gq⟩, g8, trivial⟩ ?_
    clear hK K hcnt
    ((apply plan_pure rfl; (intro w1; go_simp; try go_bits); with_reducible rfl); simp only [Act.put, List.setIfInBounds_toArray, List.set_cons_zero, List.set_cons_succ])
    refine plan_loud rfl (fun K hK => ?_); go_simp
    refine hK _ _ ⟨⟨cell_al gr, cell_al ge, cell_al gq⟩, cell_al g8, trivial⟩ ?_
    clear hK K
    refine plan_loud rfl (fun K hK => ?_)
    refine wp_app1 (E := W1) (w := W.drew) (L := pt (w.heap.size + 1 + 1 + 1) (.cells #[v] 25) :: heapIs W1 :: L) _ _ 25 rfl hx.drew.p1 48 (.agg #[.int .i64 0, .int .i64 0, .int .i64 0, .int .i64 0, .string ByteArray.empty]) (by kernel_rfl) Tryz.underlying25 rfl rfl
      [.int .i64 ep, .int .i64 sq, .int .i64 x.1, .int .i64 (npc s.size), .string x.2] rfl rfl (by simp [Value.oneCell']) (by omega) (by omega) ?_
    intro v' w3 h3 hold
    obtain ⟨g', cap', rfl, -⟩ := h3.rowSees (by omega)
    have h3 := h3.p1
    have g8' : w3.cell? ⟨w.heap.size + 1 + 1 + 1, 0, none⟩ = some v := by rw [cell_blk h3.at]; rfl
    have f8' : w3.frozen? ⟨w.heap.size + 1 + 1 + 1, 0, none⟩ = false := frozen_blk h3.at 0
    have hB3 := h3.p2.below
    refine hK _ _ ⟨⟨by rw [hB3.cell (by rw [hz]; show w.heap.size < _; omega)]; exact GR.out, by rw [hB3.cell (by rw [hz]; show w.heap.size + 1 < _; omega)]; exact GE.out, by rw [hB3.cell (by rw [hz]; show w.heap.size + 1 + 1 < _; omega)]; exact GQ.out⟩, g8', trivial⟩ ?_
    clear hK K gr ge gq g8
    simp only [Act.put, List.setIfInBounds_toArray, List.set_cons_zero, List.set_cons_succ]
    refine plan_loud rfl (fun K hK => ?_); go_simp
    refine hK _ _ trivial (plan_nil ?_)
    gi_wp2
    show Sat _ _ _
    refine Sat.mkEx (A := fun v : Value => seps [pt (w.heap.size + 1 + 1 + 1) (.cells #[v] 25), row 23 5 v (pre ++ [x]).length (pcs ((pre ++ [x]).map (pcOf (npc s.size) ep sq))), heapIs W1]) (.slice (some ⟨g', 0, none⟩) (pre.length + 1) cap') (Sat.pack [_, _, _] ?_)
    have h4 := (h3.setCell 0 (.slice (some ⟨g', 0, none⟩) (pre.length + 1) cap')).p1
    have hl2 : (pcs (pre.map (pcOf (npc s.size) ep sq)) ++ [Value.int .i64 ep, .int .i64 sq, .int .i64 x.1, .int .i64 (npc s.size), .string x.2]) = pcs ((pre ++ [x]).map (pcOf (npc s.size) ep sq)) := by
      simp [pcs, pcOf, Pc.cells]
    rw [hl2] at h4
    simpa using h4.p1
  case done =>
    rintro D _ W' rfl hx
    have hx := hx.p1.tail
    obtain ⟨v, hx⟩ := hx.ex
    have hx := hx.flat
    have g8 : W'.cell? ⟨w.heap.size + 1 + 1 + 1, 0, none⟩ = some v := by rw [cell_blk hx.at]; rfl
    have hp : 0 < npc s.size := by unfold npc; omega
    obtain ⟨g', cap', rfl, hcap, -, hgl, hsee⟩ := hx.p1.rowSees (by rw [chunks_len]; exact hp)
    rw [chunks_len] at g8 hx hcap
    gi_wp2
    refine post_mark hx.p3 (results_tmp2 rfl _ _ _) ?_
    rintro W2 hW2 hx2
    have hx3 : Sat W1 W2 [heapIs W1, _, _] := hx2.p2
    refine ⟨some ⟨g', 0, none⟩, cap', ?_, ?_, hbW.trans (hx3.below.mono (by omega)), by rw [show (cutL s ep sq).length = npc s.size by simp [cutL, chunks_len]]; exact hcap⟩
    · show Ending.returned (.tuple #[.slice _ (npc s.size) cap', .int .i64 0]) = _
      rw [show (cutL s ep sq).length = npc s.size by simp [cutL, chunks_len]]
    · intro j u hj
      refine ⟨g', 0, rfl, ?_⟩
      obtain ⟨g2, cap2, e, -, -, -, hs2⟩ := hx2.p1.rowSees hp
      cases e
      exact hs2 j u hj
  case stop => 
    rintro D c pre W' - hx
    exact hx.fact.1.elim
end Go.Proofs.YtmkpglabiikdeaaGreatDoor

