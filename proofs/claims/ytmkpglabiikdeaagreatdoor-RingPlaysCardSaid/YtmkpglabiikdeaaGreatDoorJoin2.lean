/-
  posthouse/piece.Join and posthouseref11.Join: any pieces are the record that the document says, or none.
-/
import Derived.Test.YtmkpglabiikdeaaGreatDoorPieceBase
import Derived.Test.YtmkpglabiikdeaaGreatDoorMore
import Derived.Test.YtmkpglabiikdeaaGreatDoorShelf
namespace Go.Proofs.YtmkpglabiikdeaaGreatDoor
open Go.RowKit PH

theorem Sees.of_below {w w' : World} {a : Option Addr} {cs : List Value} (h : Sees w a cs) (hb : Below w.heap.size w w') : Sees w' a cs := by
  intro j u hj
  obtain ⟨b, off, rfl, hc⟩ := h j u hj
  exact ⟨b, off, rfl, by rw [hb.cell (World.block_lt_of_cell? w _ hc)]; exact hc⟩

/-- Piece i of l, whose first piece is f, is what it must be. -/
def good (n : Nat) (f : Pc) (i : Nat) (p : Pc) : Bool := okPc p && (p.part == (i : Int)) && (p.epoch == f.epoch) && (p.seq == f.seq) && (p.parts == (n : Int))
/-- The first k pieces are. -/
def goods (l : List Pc) (k : Nat) : Prop := ∀ i, i < k → ∀ p f, l[i]? = some p → l[0]? = some f → good l.length f i p = true
def cat (l : List Pc) (k : Nat) : List UInt8 := (l.take k).flatMap fun p => p.data.data.toList
/-- Is l the pieces of a record? -/
def whole (l : List Pc) : Bool := decide (0 < l.length) && (l.zipIdx.all fun x => match l[0]? with | some f => good l.length f x.2 x.1 | none => false)
/-- What Join answers. -/
def joined (l : List Pc) : ByteArray := if whole l then ⟨(cat l l.length).toArray⟩ else ⟨#[]⟩
def joinErr (l : List Pc) : Int := if whole l then 0 else 14

theorem whole_yes {l : List Pc} (h0 : 0 < l.length) (h : goods l l.length) : whole l = true := by
  unfold whole
  simp only [h0, decide_true, Bool.true_and, List.all_eq_true]
  rintro ⟨p, i⟩ hx
  have hx' := List.mem_zipIdx_iff_getElem?.1 hx
  have hf : l[0]? = some l[0] := List.getElem?_eq_getElem h0
  simp only [hf]
  exact h i (by have := (List.getElem?_eq_some_iff.1 hx').1; exact this) p _ hx' hf
theorem whole_no {l : List Pc} {i : Nat} {p f : Pc} (hp : l[i]? = some p) (hf : l[0]? = some f) (h : good l.length f i p = false) : whole l = false := by
  unfold whole
  rw [Bool.and_eq_false_iff]
  right
  rw [List.all_eq_false]
  refine ⟨(p, i), List.mem_zipIdx_iff_getElem?.2 hp, ?_⟩
  simp only [hf, h]
  simp
theorem whole_nil : whole [] = false := rfl
theorem goods_succ {l : List Pc} {k : Nat} (h : goods l k) {p f : Pc} (hp : l[k]? = some p) (hf : l[0]? = some f) (hg : good l.length f k p = true) : goods l (k + 1) := by
  intro i hi q g hq hg'
  rcases Nat.lt_or_ge i k with h' | h'
  · exact h i h' q g hq hg'
  · obtain rfl : i = k := by omega
    rw [hp] at hq; cases hq
    rw [hf] at hg'; cases hg'
    exact hg
theorem cat_succ {l : List Pc} {k : Nat} {p : Pc} (hp : l[k]? = some p) : cat l (k + 1) = cat l k ++ p.data.data.toList := by
  unfold cat
  rw [List.take_add_one, hp]
  simp

theorem join_nil (xs : List (List UInt8)) : Lib.join xs [] = xs.flatten := by
  cases xs with
  | nil => rfl
  | cons x r => rw [Lib.join_cons, Lib.joinTail]; simp
theorem flat_le (l : List Pc) (n : Nat) (h : ∀ p ∈ l, p.data.size ≤ n) : (l.flatMap fun p => p.data.data.toList).length ≤ l.length * n := by
  induction l with
  | nil => simp
  | cons p l ih =>
    have h1 := ih (fun q hq => h q (List.mem_cons_of_mem _ hq))
    have h2 := h p List.mem_cons_self
    have h3 : p.data.data.toList.length = p.data.size := rfl
    rw [List.flatMap_cons, List.length_append, List.length_cons, Nat.succ_mul]
    omega

set_option maxRecDepth 100000 in
set_option maxHeartbeats 400000 in
theorem join_ok {w : World} {a : Option Addr} {c : Nat} {l : List Pc} (h : Sees w a (pcs l)) (hl : l.length ≤ 1000000) (hd : ∀ p ∈ l, p.data.size ≤ 1000) :
    Calls Tryz.prog 107 #[.slice a l.length c] w fun e w' => e = .returned (.tuple #[.string (joined l), .int .i64 (joinErr l)]) ∧ Below w.heap.size w w' := by
  go_enter Tryz.func107, Tryz.ntmps107
  go_wp2
  go_loopw [4, 10] (fun v i wr => ∃ k : Nat, k ≤ l.length ∧ i = .int .i64 k ∧ goods l k ∧ Sat w wr [row 9 1 v k ((l.take k).map fun p => .string p.data), heapIs w]) (fun _ i _ => l.length - (intOf i).toNat)
  case atStart => exact ⟨0, by omega, rfl, fun i hi => by omega, (Sat.start w).rowNil _ _⟩
  case round =>
    obtain ⟨k, hk, rfl, hg, hs⟩ := hrel
    have HG := Lib.hid hg
    clear hg
    have HB := Lib.hid (hs.p1.below)
    by_cases hlt : k < l.length
    · obtain ⟨b, off, rfl, c0, c1, c2, c3, c4⟩ := (h.of_below HB.out).piece hlt
      obtain ⟨b', off', e', d0, d1, d2, d3, d4⟩ := (h.of_below HB.out).piece (k := 0) (by omega)
      cases e'
      clear h
      simp only [Nat.zero_mul, Nat.add_zero] at d0 d1 d2 d3 d4
      obtain ⟨⟨ep, sq, pt, ps, d⟩, hp⟩ : ∃ p, l[k] = p := ⟨_, rfl⟩
      obtain ⟨⟨fep, fsq, fpt, fps, fd⟩, hf⟩ : ∃ p, l[0] = p := ⟨_, rfl⟩
      rw [hp] at c0 c1 c2 c3 c4
      rw [hf] at d0 d1 d2 d3 d4
      have HP := Lib.hid hp
      have HF := Lib.hid hf
      clear hp hf
      dsimp only at c0 c1 c2 c3 c4 d0 d1 d2 d3 d4
      go_wp2
      obtain ⟨wa, hwa⟩ : ∃ wa, (wr.alloc (.cells #[.int .i64 ep, .int .i64 sq, .int .i64 pt, .int .i64 ps, .string d] 23)).alloc (.cells #[.int .i64 ep, .int .i64 sq, .int .i64 ps] 187) = wa := ⟨_, rfl⟩
      have E0 : wa.cell? ⟨wr.heap.size, 0, none⟩ = some (.int .i64 ep) ∧ wa.cell? ⟨wr.heap.size, 1, none⟩ = some (.int .i64 sq) ∧ wa.cell? ⟨wr.heap.size, 2, none⟩ = some (.int .i64 pt) ∧ wa.cell? ⟨wr.heap.size, 3, none⟩ = some (.int .i64 ps) ∧ wa.cell? ⟨wr.heap.size, 4, none⟩ = some (.string d) ∧
          wa.cell? ⟨wr.heap.size + 1, 0, none⟩ = some (.int .i64 ep) ∧ wa.cell? ⟨wr.heap.size + 1, 1, none⟩ = some (.int .i64 sq) ∧ wa.cell? ⟨wr.heap.size + 1, 2, none⟩ = some (.int .i64 ps) ∧
          wa.cell? ⟨b, off, none⟩ = some (.int .i64 fep) ∧ wa.cell? ⟨b, off + 1, none⟩ = some (.int .i64 fsq) := by
        subst hwa
        go_simp
        exact ⟨cell_al (cell_al d0), cell_al (cell_al d1)⟩
      rw [hwa]
      have hsa : Sat w wa (row 9 1 u4 k ((l.take k).map fun p => .string p.data) :: heapIs w :: []) := by
        rw [← hwa]; exact (hs.alloc _).tail.alloc _ |>.tail
      clear hwa
      obtain ⟨e0, e1, e2, e3, e4, e5, e6, e7, e8, e9⟩ := E0
      refine wp_region_planL [(0, true), (1, false), (2, true), (3, true), (4, true), (5, true), (6, true), (7, true), (8, true), (9, true), (10, true), (11, true), (12, true), (13, true), (14, true), (15, true), (16, true), (17, true), (18, true), (19, true), (20, true), (21, true), (22, true), (23, true)]
        [(24, fun w1 => w1.cell? ⟨wr.heap.size, 0, none⟩ = some (.int .i64 ep) ∧ w1.cell? ⟨wr.heap.size, 1, none⟩ = some (.int .i64 sq) ∧ w1.cell? ⟨wr.heap.size, 2, none⟩ = some (.int .i64 pt) ∧ w1.cell? ⟨wr.heap.size, 3, none⟩ = some (.int .i64 ps) ∧ w1.cell? ⟨wr.heap.size, 4, none⟩ = some (.string d) ∧
          w1.cell? ⟨wr.heap.size + 1, 0, none⟩ = some (.int .i64 ep) ∧ w1.cell? ⟨wr.heap.size + 1, 1, none⟩ = some (.int .i64 sq) ∧ w1.cell? ⟨wr.heap.size + 1, 2, none⟩ = some (.int .i64 ps) ∧
          w1.cell? ⟨b, off, none⟩ = some (.int .i64 fep) ∧ w1.cell? ⟨b, off + 1, none⟩ = some (.int .i64 fsq))] (by kernel_rfl) (by kernel_rfl) (by intro c a d v w h; cases d <;> exact h) ?_ ?_
      · exact ⟨⟨e0, e1, e2, e3, e4, e5, e6, e7, e8, e9⟩, trivial⟩
      simp only [planOps, List.getElem?_cons_zero, List.getElem?_cons_succ]
      (refine' plan_load 0 rfl (by kernel_rfl) rfl ?_ ?_; rotate_left; (intro w1 hw1; go_simp; with_reducible rfl)); simp only [Act.put, List.setIfInBounds_toArray, List.set_cons_zero, List.set_cons_succ]
      refine plan_loud rfl (fun K hK => ?_); go_simp
      refine (check_ok ⟨ep, sq, pt, ps, d⟩ _ (by have := hd _ (List.getElem_mem hlt); rw [HP.out] at this; omega)).mono ?_
      rintro e w2 ⟨rfl, hb⟩
      dsimp only
      refine hK _ _ ⟨⟨kept hb e0, kept hb e1, kept hb e2, kept hb e3, kept hb e4, kept hb e5, kept hb e6, kept hb e7, kept hb e8, kept hb e9⟩, trivial⟩ ?_
      clear hK K
      have hs2 := hsa.drew.ofBelow hb
      have e4' := kept hb e4
      have HE4 := Lib.hid e4'
      clear e0 e1 e2 e3 e4 e5 e6 e7 e8 e9 d0 d1 d2 d3 d4 c0 c1 c2 c3 c4 hsa hs
      by_cases hc1 : okPc ⟨ep, sq, pt, ps, d⟩ = true
      · have hc : chk ⟨ep, sq, pt, ps, d⟩ = 0 := by unfold chk; rw [if_pos hc1]
        rw [hc]
        by_cases hc2 : pt = (k : Int)
        · have hcb : (pt != (k : Int)) = false := by simp [hc2]
          have HC2 := Lib.hid hc2
          have h0l : 0 < l.length := by omega
          clear hc2
          by_cases hc3 : ep = fep ∧ sq = fsq ∧ ps = (l.length : Int)
          · obtain ⟨hx1, hx2, hx3⟩ := hc3
            subst hx1 hx2 hx3
            iterate 20 (first
          | (apply plan_skip rfl; simp only [Act.put, List.setIfInBounds_toArray, List.set_cons_zero, List.set_cons_succ])
          | ((apply plan_pure rfl; (intro w1; go_simp; try go_bits); with_reducible rfl); simp only [Act.put, List.setIfInBounds_toArray, List.set_cons_zero, List.set_cons_succ])
          | ((refine' plan_load 0 rfl (by kernel_rfl) rfl ?_ ?_; rotate_left; (intro w1 hw1; go_simp; with_reducible rfl)); simp only [Act.put, List.setIfInBounds_toArray, List.set_cons_zero, List.set_cons_succ]))
            iterate 2 (first
              | (apply plan_skip rfl; simp only [Act.put, List.setIfInBounds_toArray, List.set_cons_zero, List.set_cons_succ])
              | ((apply plan_pure rfl; (intro w1; go_simp; try go_bits); with_reducible rfl); simp only [Act.put, List.setIfInBounds_toArray, List.set_cons_zero, List.set_cons_succ])
              | ((refine' plan_load 0 rfl (by kernel_rfl) rfl ?_ ?_; rotate_left; (intro w1 hw1; go_simp; with_reducible rfl)); simp only [Act.put, List.setIfInBounds_toArray, List.set_cons_zero, List.set_cons_succ]))
            refine plan_nil ?_
            clear e4'
            have e4' : w2.cell? ⟨wr.heap.size, 4, none⟩ = some (.string d) := HE4.out
            go_wp2_with (at_builtin; refine wpList_app1 rfl _ _ 43 rfl hs2 16 (.string ByteArray.empty) (by kernel_rfl) Tryz.underlying43 rfl rfl [.string d] rfl rfl (by simp [Value.oneCell']) (by omega) (by omega) ?_; intro v' w3 hs3)
            refine ⟨⟨k + 1, by omega, by go_num, goods_succ HG.out (List.getElem?_eq_getElem hlt) (List.getElem?_eq_getElem h0l) (by rw [HP.out, HF.out]; unfold good; rw [hc1]; simp [HC2.out]), ?_⟩, by simp [intOf]; omega⟩
            rw [List.take_add_one, List.getElem?_eq_getElem hlt, HP.out]
            simpa using hs3
          · iterate 20 (first
          | (apply plan_skip rfl; simp only [Act.put, List.setIfInBounds_toArray, List.set_cons_zero, List.set_cons_succ])
          | ((apply plan_pure rfl; (intro w1; go_simp; try go_bits); with_reducible rfl); simp only [Act.put, List.setIfInBounds_toArray, List.set_cons_zero, List.set_cons_succ])
          | ((refine' plan_load 0 rfl (by kernel_rfl) rfl ?_ ?_; rotate_left; (intro w1 hw1; go_simp; with_reducible rfl)); simp only [Act.put, List.setIfInBounds_toArray, List.set_cons_zero, List.set_cons_succ]))
            refine plan_pure (v := .bool true) rfl (fun w1 => ?_) ?_
            · go_simp
              by_cases a1 : ep = fep <;> by_cases a2 : sq = fsq <;> by_cases a3 : ps = (l.length : Int) <;> simp_all
            simp only [Act.put, List.setIfInBounds_toArray, List.set_cons_zero, List.set_cons_succ]
            iterate 1 (first
              | (apply plan_skip rfl; simp only [Act.put, List.setIfInBounds_toArray, List.set_cons_zero, List.set_cons_succ])
              | ((apply plan_pure rfl; (intro w1; go_simp; try go_bits); with_reducible rfl); simp only [Act.put, List.setIfInBounds_toArray, List.set_cons_zero, List.set_cons_succ])
              | ((refine' plan_load 0 rfl (by kernel_rfl) rfl ?_ ?_; rotate_left; (intro w1 hw1; go_simp; with_reducible rfl)); simp only [Act.put, List.setIfInBounds_toArray, List.set_cons_zero, List.set_cons_succ]))
            refine plan_nil ?_
            go_wp2
            go_ret2
            have hw : whole l = false := whole_no (List.getElem?_eq_getElem hlt) (List.getElem?_eq_getElem h0l) (by
              rw [HP.out, HF.out]; unfold good
              rw [Bool.eq_false_iff]; intro hgd; simp only [Bool.and_eq_true, beq_iff_eq] at hgd
              exact hc3 ⟨hgd.1.1.2, hgd.1.2, hgd.2⟩)
            exact ⟨retS2 (by unfold joined; rw [hw]; rfl) (by unfold joinErr; rw [hw]; rfl), hs2.p1.below⟩
        · have hcb : (pt != (k : Int)) = true := by simp [hc2]
          iterate 22 (first
          | (apply plan_skip rfl; simp only [Act.put, List.setIfInBounds_toArray, List.set_cons_zero, List.set_cons_succ])
          | ((apply plan_pure rfl; (intro w1; go_simp; try go_bits); with_reducible rfl); simp only [Act.put, List.setIfInBounds_toArray, List.set_cons_zero, List.set_cons_succ])
          | ((refine' plan_load 0 rfl (by kernel_rfl) rfl ?_ ?_; rotate_left; (intro w1 hw1; go_simp; with_reducible rfl)); simp only [Act.put, List.setIfInBounds_toArray, List.set_cons_zero, List.set_cons_succ]))
          refine plan_nil ?_
          go_wp2
          go_ret2
          have hw : whole l = false := whole_no (List.getElem?_eq_getElem hlt) (List.getElem?_eq_getElem (by omega : 0 < l.length)) (by rw [HP.out]; unfold good; rw [beq_eq_false_iff_ne.2 hc2]; simp)
          exact ⟨retS2 (by unfold joined; rw [hw]; rfl) (by unfold joinErr; rw [hw]; rfl), hs2.p1.below⟩
      · have hc : chk ⟨ep, sq, pt, ps, d⟩ = 14 := by unfold chk; rw [if_neg hc1]
        rw [hc]
        iterate 22 (first
          | (apply plan_skip rfl; simp only [Act.put, List.setIfInBounds_toArray, List.set_cons_zero, List.set_cons_succ])
          | ((apply plan_pure rfl; (intro w1; go_simp; try go_bits); with_reducible rfl); simp only [Act.put, List.setIfInBounds_toArray, List.set_cons_zero, List.set_cons_succ])
          | ((refine' plan_load 0 rfl (by kernel_rfl) rfl ?_ ?_; rotate_left; (intro w1 hw1; go_simp; with_reducible rfl)); simp only [Act.put, List.setIfInBounds_toArray, List.set_cons_zero, List.set_cons_succ]))
        refine plan_nil ?_
        go_wp2
        go_ret2
        have hw : whole l = false := whole_no (List.getElem?_eq_getElem hlt) (List.getElem?_eq_getElem (by omega : 0 < l.length)) (by rw [HP.out]; unfold good; rw [Bool.not_eq_true _ |>.mp hc1]; rfl)
        exact ⟨retS2 (by unfold joined; rw [hw]; rfl) (by unfold joinErr; rw [hw]; rfl), hs2.p1.below⟩
    · obtain rfl : k = l.length := by omega
      by_cases h0 : l.length = 0
      · have hl0 : l = [] := List.eq_nil_of_length_eq_zero h0
        subst hl0
        go_wp2
        go_ret2
        exact ⟨retS2 rfl rfl, hs.p1.below⟩
      · obtain ⟨g, cap, rfl, hcap, _, hg, hcs⟩ := hs.rowSees (by omega)
        have hcs' : ∀ (j : Nat) (x : ByteArray), (l.map fun p => p.data)[j]? = some x → wr.cell? ⟨g, 0 + j, none⟩ = some (.string x) := fun j x hj => hcs j _ (by
          rw [List.take_length]; rw [List.getElem?_map] at hj ⊢; cases hlj : l[j]? with | none => rw [hlj] at hj; cases hj | some p => rw [hlj] at hj; cases hj; rfl)
        have hj := Tryz.strings_Join g 0 cap (l.map fun p => p.data) ByteArray.empty wr hcs' hg (by simp; omega) (by simpa using hcap) (by
          show (Lib.join _ []).length ≤ _
          rw [join_nil, List.map_map, ← List.flatMap_def]
          have := flat_le l 1000 hd
          simp only [Function.comp_def] at *
          have : l.length * 1000 ≤ 1000000 * 1000 := Nat.mul_le_mul_right _ hl
          omega)
        rw [List.length_map] at hj
        have HJ := Lib.hid hj
        have h0b : ((l.length : Int) == 0) = false := by simpa using h0
        clear hj hcs hcs'
        go_wp2_with (go_at_call 120; refine HJ.out.mono ?_; rintro e w2 ⟨rfl, hb⟩)
        go_ret2
        have hw : whole l = true := whole_yes (by omega) HG.out
        refine ⟨retS2 ?_ (by unfold joinErr; rw [hw]; rfl), (hs.ofBelow hb).p1.below⟩
        unfold joined cat
        rw [hw, if_pos rfl]
        congr 2
        rw [List.take_length, join_nil, ← List.flatMap_def]
        rfl
end Go.Proofs.YtmkpglabiikdeaaGreatDoor
/-
  posthouseref11.Join.
-/
namespace Go.Proofs.YtmkpglabiikdeaaGreatDoor
open Go.RowKit PH

theorem cat_len (l : List Pc) (k n : Nat) (h : ∀ p ∈ l, p.data.size ≤ n) : (cat l k).length ≤ l.length * n := by
  have h1 := flat_le (l.take k) n (fun p hp => h p (List.mem_of_mem_take hp))
  have h2 : (l.take k).length * n ≤ l.length * n := Nat.mul_le_mul_right _ (by simp; omega)
  unfold cat
  omega
theorem cat_push {l : List Pc} {k : Nat} {p : Pc} {s : ByteArray} (hp : l[k]? = some p) (hs : s = ⟨(cat l k).toArray⟩) : s ++ p.data = ⟨(cat l (k + 1)).toArray⟩ := by
  subst hs
  rw [cat_succ hp]
  apply ByteArray.ext
  rw [ByteArray.data_append]
  apply Array.ext'
  simp

set_option maxRecDepth 100000 in
set_option maxHeartbeats 800000 in
theorem refJoin_ok {w : World} {a : Option Addr} {c : Nat} {l : List Pc} (h : Sees w a (pcs l)) (hl : l.length ≤ 1000000) (hd : ∀ p ∈ l, p.data.size ≤ 1000) :
    Calls Tryz.prog 71 #[.slice a l.length c] w fun e w' => e = .returned (.tuple #[.string (joined l), .bool (whole l)]) ∧ Below w.heap.size w w' := by
  go_enter Tryz.func71, Tryz.ntmps71
  go_wp2
  go_loopw [4, 5] (fun v i wr => ∃ (k : Nat) (s : ByteArray), k ≤ l.length ∧ i = .int .i64 k ∧ v = .string s ∧ s = ⟨(cat l k).toArray⟩ ∧ goods l k ∧ Below w.heap.size w wr) (fun _ i _ => l.length - (intOf i).toNat)
  case atStart => exact ⟨0, ⟨#[]⟩, by omega, rfl, rfl, rfl, fun i hi => by omega, Below.refl _ _⟩
  case round =>
    obtain ⟨k, s, hk, rfl, rfl, hs, hg, hbw⟩ := hrel
    have HG := Lib.hid hg
    have HS := Lib.hid hs
    have HB := Lib.hid hbw
    have hsz : s.size ≤ 1000000000 := by
      have h1 := cat_len l k 1000 hd
      have h2 : l.length * 1000 ≤ 1000000 * 1000 := Nat.mul_le_mul_right _ hl
      rw [hs]
      show (cat l k).toArray.size ≤ _
      simp only [List.size_toArray]
      omega
    clear hg hs hbw
    by_cases hlt : k < l.length
    · obtain ⟨b, off, rfl, c0, c1, c2, c3, c4⟩ := (h.of_below HB.out).piece hlt
      obtain ⟨b', off', e', d0, d1, d2, d3, d4⟩ := (h.of_below HB.out).piece (k := 0) (by omega)
      cases e'
      clear h
      simp only [Nat.zero_mul, Nat.add_zero] at d0 d1 d2 d3 d4
      obtain ⟨⟨ep, sq, pt, ps, d⟩, hp⟩ : ∃ p, l[k] = p := ⟨_, rfl⟩
      obtain ⟨⟨fep, fsq, fpt, fps, fd⟩, hf⟩ : ∃ p, l[0] = p := ⟨_, rfl⟩
      have hds : d.size ≤ 1000 := by have := hd _ (List.getElem_mem hlt); rw [hp] at this; exact this
      rw [hp] at c0 c1 c2 c3 c4
      rw [hf] at d0 d1 d2 d3 d4
      have HP := Lib.hid hp
      have HF := Lib.hid hf
      clear hp hf
      dsimp only at c0 c1 c2 c3 c4 d0 d1 d2 d3 d4
      go_wp2
      obtain ⟨wa, hwa⟩ : ∃ wa, (wr.alloc (.cells #[.int .i64 ep, .int .i64 sq, .int .i64 pt, .int .i64 ps, .string d] 23)) = wa := ⟨_, rfl⟩
      have E0 : wa.cell? ⟨wr.heap.size, 0, none⟩ = some (.int .i64 ep) ∧ wa.cell? ⟨wr.heap.size, 1, none⟩ = some (.int .i64 sq) ∧ wa.cell? ⟨wr.heap.size, 2, none⟩ = some (.int .i64 pt) ∧ wa.cell? ⟨wr.heap.size, 3, none⟩ = some (.int .i64 ps) ∧ wa.cell? ⟨wr.heap.size, 4, none⟩ = some (.string d) ∧
          wa.cell? ⟨b, off, none⟩ = some (.int .i64 fep) ∧ wa.cell? ⟨b, off + 1, none⟩ = some (.int .i64 fsq) := by
        subst hwa
        go_simp
        exact ⟨cell_al d0, cell_al d1⟩
      rw [hwa]
      have hba : Below w.heap.size w wa := by rw [← hwa]; exact HB.out.alloc HB.out.size _
      clear hwa
      have HBA := Lib.hid hba
      clear hba
      obtain ⟨e0, e1, e2, e3, e4, e8, e9⟩ := E0
      refine wp_region_planL [(0, true), (1, false), (2, true), (3, true), (4, true), (5, true), (6, true), (7, true), (8, true), (9, true), (10, true), (11, true), (12, true), (13, true), (14, true), (15, true), (16, true), (17, true), (18, true), (19, true), (20, true), (21, true), (22, true), (23, true), (24, true), (25, true), (26, true), (27, true), (28, true), (29, true), (30, true), (31, true), (32, true), (33, true)]
        [(34, fun w1 => w1.cell? ⟨wr.heap.size, 0, none⟩ = some (.int .i64 ep) ∧ w1.cell? ⟨wr.heap.size, 1, none⟩ = some (.int .i64 sq) ∧ w1.cell? ⟨wr.heap.size, 2, none⟩ = some (.int .i64 pt) ∧ w1.cell? ⟨wr.heap.size, 3, none⟩ = some (.int .i64 ps) ∧ w1.cell? ⟨wr.heap.size, 4, none⟩ = some (.string d) ∧
          w1.cell? ⟨b, off, none⟩ = some (.int .i64 fep) ∧ w1.cell? ⟨b, off + 1, none⟩ = some (.int .i64 fsq))] (by kernel_rfl) (by kernel_rfl) (by intro c a d v w h; cases d <;> exact h) ?_ ?_
      · exact ⟨⟨e0, e1, e2, e3, e4, e8, e9⟩, trivial⟩
      simp only [planOps, List.getElem?_cons_zero, List.getElem?_cons_succ]
      (refine' plan_load 0 rfl (by kernel_rfl) rfl ?_ ?_; rotate_left; (intro w1 hw1; go_simp; with_reducible rfl)); simp only [Act.put, List.setIfInBounds_toArray, List.set_cons_zero, List.set_cons_succ]
      refine plan_loud rfl (fun K hK => ?_); go_simp
      refine (refCheck_ok ⟨ep, sq, pt, ps, d⟩ _ (by show d.size ≤ _; omega)).mono ?_
      rintro e w2 ⟨rfl, hb⟩
      dsimp only
      refine hK _ _ ⟨⟨kept hb e0, kept hb e1, kept hb e2, kept hb e3, kept hb e4, kept hb e8, kept hb e9⟩, trivial⟩ ?_
      clear hK K
      have HB2 := Lib.hid (HBA.out.drew.trans (hb.mono HBA.out.size))
      have e4' := kept hb e4
      have h0l : 0 < l.length := by omega
      clear e0 e1 e2 e3 e4 e8 e9 d0 d1 d2 d3 d4 c0 c1 c2 c3 c4
      obtain ⟨gd, hgd⟩ : ∃ gd, good l.length ⟨fep, fsq, fpt, fps, fd⟩ k ⟨ep, sq, pt, ps, d⟩ = gd := ⟨_, rfl⟩
      have HGD := Lib.hid hgd
      clear hgd
      by_cases hc1 : okPc ⟨ep, sq, pt, ps, d⟩ = true
      · rw [hc1]
        by_cases hc2 : pt = (k : Int)
        · have hcb2 : (pt != (k : Int)) = false := by simp [hc2]
          have HC2 := Lib.hid hc2
          clear hc2
          by_cases hc3 : ps = (l.length : Int)
          · have hcb3 : (ps != (l.length : Int)) = false := by simp [hc3]
            have HC3 := Lib.hid hc3
            clear hc3
            by_cases hc4 : ep = fep
            · have hcb4 : (ep != fep) = false := by simp [hc4]
              have HC4 := Lib.hid hc4
              clear hc4
              by_cases hc5 : sq = fsq
              · have hcb5 : (sq != fsq) = false := by simp [hc5]
                have HC5 := Lib.hid hc5
                clear hc5
                iterate 32 (first | (apply plan_skip rfl; simp only [Act.put, List.setIfInBounds_toArray, List.set_cons_zero, List.set_cons_succ]) | ((apply plan_pure rfl; (intro w1; go_simp; try go_bits); with_reducible rfl); simp only [Act.put, List.setIfInBounds_toArray, List.set_cons_zero, List.set_cons_succ]) | ((refine' plan_load 0 rfl (by kernel_rfl) rfl ?_ ?_; rotate_left; (intro w1 hw1; go_simp; with_reducible rfl)); simp only [Act.put, List.setIfInBounds_toArray, List.set_cons_zero, List.set_cons_succ]))
                refine plan_nil ?_
                go_wp2
                have hpk : l[k]? = some ⟨ep, sq, pt, ps, d⟩ := by rw [List.getElem?_eq_getElem hlt, HP.out]
                exact ⟨⟨k + 1, s ++ d, by omega, by go_num, rfl, cat_push hpk HS.out, goods_succ HG.out hpk (by rw [List.getElem?_eq_getElem h0l, HF.out]) (by unfold good; rw [hc1]; simp [HC2.out, HC3.out, HC4.out, HC5.out]), HB2.out⟩, by simp [intOf]; omega⟩
              · have hcb5 : (sq != fsq) = true := by simp [hc5]
                iterate 32 (first | (apply plan_skip rfl; simp only [Act.put, List.setIfInBounds_toArray, List.set_cons_zero, List.set_cons_succ]) | ((apply plan_pure rfl; (intro w1; go_simp; try go_bits); with_reducible rfl); simp only [Act.put, List.setIfInBounds_toArray, List.set_cons_zero, List.set_cons_succ]) | ((refine' plan_load 0 rfl (by kernel_rfl) rfl ?_ ?_; rotate_left; (intro w1 hw1; go_simp; with_reducible rfl)); simp only [Act.put, List.setIfInBounds_toArray, List.set_cons_zero, List.set_cons_succ]))
                refine plan_nil ?_
                go_wp2
                (go_ret2; have hw : whole l = false := whole_no (List.getElem?_eq_getElem hlt) (List.getElem?_eq_getElem h0l) (by rw [HP.out, HF.out, Bool.eq_false_iff]; intro hgd; simp only [good, Bool.and_eq_true, beq_iff_eq] at hgd; simp_all); exact ⟨retSB (by unfold joined; rw [hw]; rfl) (by rw [hw]), HB2.out⟩)
            · have hcb4 : (ep != fep) = true := by simp [hc4]
              iterate 32 (first | (apply plan_skip rfl; simp only [Act.put, List.setIfInBounds_toArray, List.set_cons_zero, List.set_cons_succ]) | ((apply plan_pure rfl; (intro w1; go_simp; try go_bits); with_reducible rfl); simp only [Act.put, List.setIfInBounds_toArray, List.set_cons_zero, List.set_cons_succ]) | ((refine' plan_load 0 rfl (by kernel_rfl) rfl ?_ ?_; rotate_left; (intro w1 hw1; go_simp; with_reducible rfl)); simp only [Act.put, List.setIfInBounds_toArray, List.set_cons_zero, List.set_cons_succ]))
              refine plan_nil ?_
              go_wp2
              (go_ret2; have hw : whole l = false := whole_no (List.getElem?_eq_getElem hlt) (List.getElem?_eq_getElem h0l) (by rw [HP.out, HF.out, Bool.eq_false_iff]; intro hgd; simp only [good, Bool.and_eq_true, beq_iff_eq] at hgd; simp_all); exact ⟨retSB (by unfold joined; rw [hw]; rfl) (by rw [hw]), HB2.out⟩)
          · have hcb3 : (ps != (l.length : Int)) = true := by simp [hc3]
            iterate 32 (first | (apply plan_skip rfl; simp only [Act.put, List.setIfInBounds_toArray, List.set_cons_zero, List.set_cons_succ]) | ((apply plan_pure rfl; (intro w1; go_simp; try go_bits); with_reducible rfl); simp only [Act.put, List.setIfInBounds_toArray, List.set_cons_zero, List.set_cons_succ]) | ((refine' plan_load 0 rfl (by kernel_rfl) rfl ?_ ?_; rotate_left; (intro w1 hw1; go_simp; with_reducible rfl)); simp only [Act.put, List.setIfInBounds_toArray, List.set_cons_zero, List.set_cons_succ]))
            refine plan_nil ?_
            go_wp2
            (go_ret2; have hw : whole l = false := whole_no (List.getElem?_eq_getElem hlt) (List.getElem?_eq_getElem h0l) (by rw [HP.out, HF.out, Bool.eq_false_iff]; intro hgd; simp only [good, Bool.and_eq_true, beq_iff_eq] at hgd; simp_all); exact ⟨retSB (by unfold joined; rw [hw]; rfl) (by rw [hw]), HB2.out⟩)
        · have hcb2 : (pt != (k : Int)) = true := by simp [hc2]
          iterate 32 (first | (apply plan_skip rfl; simp only [Act.put, List.setIfInBounds_toArray, List.set_cons_zero, List.set_cons_succ]) | ((apply plan_pure rfl; (intro w1; go_simp; try go_bits); with_reducible rfl); simp only [Act.put, List.setIfInBounds_toArray, List.set_cons_zero, List.set_cons_succ]) | ((refine' plan_load 0 rfl (by kernel_rfl) rfl ?_ ?_; rotate_left; (intro w1 hw1; go_simp; with_reducible rfl)); simp only [Act.put, List.setIfInBounds_toArray, List.set_cons_zero, List.set_cons_succ]))
          refine plan_nil ?_
          go_wp2
          (go_ret2; have hw : whole l = false := whole_no (List.getElem?_eq_getElem hlt) (List.getElem?_eq_getElem h0l) (by rw [HP.out, HF.out, Bool.eq_false_iff]; intro hgd; simp only [good, Bool.and_eq_true, beq_iff_eq] at hgd; simp_all); exact ⟨retSB (by unfold joined; rw [hw]; rfl) (by rw [hw]), HB2.out⟩)
      · have hcf : okPc ⟨ep, sq, pt, ps, d⟩ = false := by simpa using hc1
        rw [hcf]
        iterate 32 (first | (apply plan_skip rfl; simp only [Act.put, List.setIfInBounds_toArray, List.set_cons_zero, List.set_cons_succ]) | ((apply plan_pure rfl; (intro w1; go_simp; try go_bits); with_reducible rfl); simp only [Act.put, List.setIfInBounds_toArray, List.set_cons_zero, List.set_cons_succ]) | ((refine' plan_load 0 rfl (by kernel_rfl) rfl ?_ ?_; rotate_left; (intro w1 hw1; go_simp; with_reducible rfl)); simp only [Act.put, List.setIfInBounds_toArray, List.set_cons_zero, List.set_cons_succ]))
        refine plan_nil ?_
        go_wp2
        (go_ret2; have hw : whole l = false := whole_no (List.getElem?_eq_getElem hlt) (List.getElem?_eq_getElem h0l) (by rw [HP.out, HF.out, Bool.eq_false_iff]; intro hgd; simp only [good, Bool.and_eq_true, beq_iff_eq] at hgd; exact hc1 hgd.1.1.1.1); exact ⟨retSB (by unfold joined; rw [hw]; rfl) (by rw [hw]), HB2.out⟩)
    · obtain rfl : k = l.length := by omega
      by_cases h0 : l.length = 0
      · have hl0 : l = [] := List.eq_nil_of_length_eq_zero h0
        subst hl0
        go_wp2
        go_ret2
        exact ⟨retSB HS.out rfl, HB.out⟩
      · have hw : whole l = true := whole_yes (by omega) HG.out
        go_wp2
        go_ret2
        exact ⟨retSB (by rw [HS.out]; unfold joined; rw [hw]; rfl) (by rw [hw]; simp; omega), HB.out⟩
end Go.Proofs.YtmkpglabiikdeaaGreatDoor
