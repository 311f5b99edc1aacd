/-
  posthouseref11.Join.
-/
import Derived.Test.YtmkpglabiikdeaaGreatDoorJoin
namespace Go.Proofs.YtmkpglabiikdeaaGreatDoor
open Go.RowKit PH

theorem cat_len (l : List Pc) (k n : Nat) (h : ∀ p ∈ l, p.data.size ≤ n) : (cat l k).length ≤ l.length * n := by
  have h1 := flat_le (l.take k) n (fun p hp => h p (List.mem_of_mem_take hp))
  have h2 : (l.take k).length * n ≤ l.length * n := Nat.mul_le_mul_right _ (by simp; omega)
  unfold cat
  omega
theorem cat_push {l : List Pc} {k : Nat} {p : Pc} {s : ByteArray} (hp : l[k]? = some p) (hs : s = ⟨(cat l k).toArray⟩) : s ++ p.data = ⟨(cat l (k + 1)).toArray⟩ := by
  subst hs
  rw [cat_succ hp]
  apply ByteArray.ext
  rw [ByteArray.data_append]
  apply Array.ext'
  simp

set_option maxRecDepth 100000 in
set_option maxHeartbeats 800000 in
theorem refJoin_ok {w : World} {a : Option Addr} {c : Nat} {l : List Pc} (h : Sees w a (pcs l)) (hl : l.length ≤ 1000000) (hd : ∀ p ∈ l, p.data.size ≤ 1000) :
    Calls Tryz.prog 71 #[.slice a l.length c] w fun e w' => e = .returned (.tuple #[.string (joined l), .bool (whole l)]) ∧ Below w.heap.size w w' := by
  go_enter Tryz.func71, Tryz.ntmps71
  go_wp2
  go_loopw [4, 5] (fun v i wr => ∃ (k : Nat) (s : ByteArray), k ≤ l.length ∧ i = .int .i64 k ∧ v = .string s ∧ s = ⟨(cat l k).toArray⟩ ∧ goods l k ∧ Below w.heap.size w wr) (fun _ i _ => l.length - (intOf i).toNat)
  case atStart => exact ⟨0, ⟨#[]⟩, by omega, rfl, rfl, rfl, fun i hi => by omega, Below.refl _ _⟩
  case round =>
    obtain ⟨k, s, hk, rfl, rfl, hs, hg, hbw⟩ := hrel
    have HG := Lib.hid hg
    have HS := Lib.hid hs
    have HB := Lib.hid hbw
    have hsz : s.size ≤ 1000000000 := by
      have h1 := cat_len l k 1000 hd
      have h2 : l.length * 1000 ≤ 1000000 * 1000 := Nat.mul_le_mul_right _ hl
      rw [hs]
      show (cat l k).toArray.size ≤ _
      simp only [List.size_toArray]
      omega
    clear hg hs hbw
    by_cases hlt : k < l.length
    · obtain ⟨b, off, rfl, c0, c1, c2, c3, c4⟩ := (h.of_below HB.out).piece hlt
      obtain ⟨b', off', e', d0, d1, d2, d3, d4⟩ := (h.of_below HB.out).piece (k := 0) (by omega)
      cases e'
      clear h
      simp only [Nat.zero_mul, Nat.add_zero] at d0 d1 d2 d3 d4
      obtain ⟨⟨ep, sq, pt, ps, d⟩, hp⟩ : ∃ p, l[k] = p := ⟨_, rfl⟩
      obtain ⟨⟨fep, fsq, fpt, fps, fd⟩, hf⟩ : ∃ p, l[0] = p := ⟨_, rfl⟩
      have hds : d.size ≤ 1000 := by have := hd _ (List.getElem_mem hlt); rw [hp] at this; exact this
      rw [hp] at c0 c1 c2 c3 c4
      rw [hf] at d0 d1 d2 d3 d4
      have HP := Lib.hid hp
      have HF := Lib.hid hf
      clear hp hf
      dsimp only at c0 c1 c2 c3 c4 d0 d1 d2 d3 d4
      go_wp2
      obtain ⟨wa, hwa⟩ : ∃ wa, (wr.alloc (.cells #[.int .i64 ep, .int .i64 sq, .int .i64 pt, .int .i64 ps, .string d] 23)) = wa := ⟨_, rfl⟩
      have E0 : wa.cell? ⟨wr.heap.size, 0, none⟩ = some (.int .i64 ep) ∧ wa.cell? ⟨wr.heap.size, 1, none⟩ = some (.int .i64 sq) ∧ wa.cell? ⟨wr.heap.size, 2, none⟩ = some (.int .i64 pt) ∧ wa.cell? ⟨wr.heap.size, 3, none⟩ = some (.int .i64 ps) ∧ wa.cell? ⟨wr.heap.size, 4, none⟩ = some (.string d) ∧
          wa.cell? ⟨b, off, none⟩ = some (.int .i64 fep) ∧ wa.cell? ⟨b, off + 1, none⟩ = some (.int .i64 fsq) := by
        subst hwa
        go_simp
        exact ⟨cell_al d0, cell_al d1⟩
      rw [hwa]
      have hba : Below w.heap.size w wa := by rw [← hwa]; exact HB.out.alloc HB.out.size _
      clear hwa
      have HBA := Lib.hid hba
      clear hba
      obtain ⟨e0, e1, e2, e3, e4, e8, e9⟩ := E0
      refine wp_region_planL [(0, true), (1, false), (2, true), (3, true), (4, true), (5, true), (6, true), (7, true), (8, true), (9, true), (10, true), (11, true), (12, true), (13, true), (14, true), (15, true), (16, true), (17, true), (18, true), (19, true), (20, true), (21, true), (22, true), (23, true), (24, true), (25, true), (26, true), (27, true), (28, true), (29, true), (30, true), (31, true), (32, true), (33, true)]
        [(34, fun w1 => w1.cell? ⟨wr.heap.size, 0, none⟩ = some (.int .i64 ep) ∧ w1.cell? ⟨wr.heap.size, 1, none⟩ = some (.int .i64 sq) ∧ w1.cell? ⟨wr.heap.size, 2, none⟩ = some (.int .i64 pt) ∧ w1.cell? ⟨wr.heap.size, 3, none⟩ = some (.int .i64 ps) ∧ w1.cell? ⟨wr.heap.size, 4, none⟩ = some (.string d) ∧
          w1.cell? ⟨b, off, none⟩ = some (.int .i64 fep) ∧ w1.cell? ⟨b, off + 1, none⟩ = some (.int .i64 fsq))] (by kernel_rfl) (by kernel_rfl) (by intro c a d v w h; cases d <;> exact h) ?_ ?_
      · exact ⟨⟨e0, e1, e2, e3, e4, e8, e9⟩, trivial⟩
      simp only [planOps, List.getElem?_cons_zero, List.getElem?_cons_succ]
      (refine' plan_load 0 rfl (by kernel_rfl) rfl ?_ ?_; rotate_left; (intro w1 hw1; go_simp; with_reducible rfl)); simp only [Act.put, List.setIfInBounds_toArray, List.set_cons_zero, List.set_cons_succ]
      refine plan_loud rfl (fun K hK => ?_); go_simp
      refine (refCheck_ok ⟨ep, sq, pt, ps, d⟩ _ (by show d.size ≤ _; omega)).mono ?_
      rintro e w2 ⟨rfl, hb⟩
      dsimp only
      refine hK _ _ ⟨⟨kept hb e0, kept hb e1, kept hb e2, kept hb e3, kept hb e4, kept hb e8, kept hb e9⟩, trivial⟩ ?_
      clear hK K
      have HB2 := Lib.hid (HBA.out.drew.trans (hb.mono HBA.out.size))
      have e4' := kept hb e4
      have h0l : 0 < l.length := by omega
      clear e0 e1 e2 e3 e4 e8 e9 d0 d1 d2 d3 d4 c0 c1 c2 c3 c4
      obtain ⟨gd, hgd⟩ : ∃ gd, good l.length ⟨fep, fsq, fpt, fps, fd⟩ k ⟨ep, sq, pt, ps, d⟩ = gd := ⟨_, rfl⟩
      have HGD := Lib.hid hgd
      clear hgd
      by_cases hc1 : okPc ⟨ep, sq, pt, ps, d⟩ = true
      · rw [hc1]
        by_cases hc2 : pt = (k : Int)
        · have hcb2 : (pt != (k : Int)) = false := by simp [hc2]
          have HC2 := Lib.hid hc2
          clear hc2
          by_cases hc3 : ps = (l.length : Int)
          · have hcb3 : (ps != (l.length : Int)) = false := by simp [hc3]
            have HC3 := Lib.hid hc3
            clear hc3
            by_cases hc4 : ep = fep
            · have hcb4 : (ep != fep) = false := by simp [hc4]
              have HC4 := Lib.hid hc4
              clear hc4
              by_cases hc5 : sq = fsq
              · have hcb5 : (sq != fsq) = false := by simp [hc5]
                have HC5 := Lib.hid hc5
                clear hc5
                iterate 32 (first | (apply plan_skip rfl; simp only [Act.put, List.setIfInBounds_toArray, List.set_cons_zero, List.set_cons_succ]) | ((apply plan_pure rfl; (intro w1; go_simp; try go_bits); with_reducible rfl); simp only [Act.put, List.setIfInBounds_toArray, List.set_cons_zero, List.set_cons_succ]) | ((refine' plan_load 0 rfl (by kernel_rfl) rfl ?_ ?_; rotate_left; (intro w1 hw1; go_simp; with_reducible rfl)); simp only [Act.put, List.setIfInBounds_toArray, List.set_cons_zero, List.set_cons_succ]))
                refine plan_nil ?_
                go_wp2
                have hpk : l[k]? = some ⟨ep, sq, pt, ps, d⟩ := by rw [List.getElem?_eq_getElem hlt, HP.out]
                exact ⟨⟨k + 1, s ++ d, by omega, by go_num, rfl, cat_push hpk HS.out, goods_succ HG.out hpk (by rw [List.getElem?_eq_getElem h0l, HF.out]) (by unfold good; rw [hc1]; simp [HC2.out, HC3.out, HC4.out, HC5.out]), HB2.out⟩, by simp [intOf]; omega⟩
              · have hcb5 : (sq != fsq) = true := by simp [hc5]
                iterate 32 (first | (apply plan_skip rfl; simp only [Act.put, List.setIfInBounds_toArray, List.set_cons_zero, List.set_cons_succ]) | ((apply plan_pure rfl; (intro w1; go_simp; try go_bits); with_reducible rfl); simp only [Act.put, List.setIfInBounds_toArray, List.set_cons_zero, List.set_cons_succ]) | ((refine' plan_load 0 rfl (by kernel_rfl) rfl ?_ ?_; rotate_left; (intro w1 hw1; go_simp; with_reducible rfl)); simp only [Act.put, List.setIfInBounds_toArray, List.set_cons_zero, List.set_cons_succ]))
                refine plan_nil ?_
                go_wp2
                (go_ret2; have hw : whole l = false := whole_no (List.getElem?_eq_getElem hlt) (List.getElem?_eq_getElem h0l) (by rw [HP.out, HF.out, Bool.eq_false_iff]; intro hgd; simp only [good, Bool.and_eq_true, beq_iff_eq] at hgd; simp_all); exact ⟨retSB (by unfold joined; rw [hw]; rfl) (by rw [hw]), HB2.out⟩)
            · have hcb4 : (ep != fep) = true := by simp [hc4]
              iterate 32 (first | (apply plan_skip rfl; simp only [Act.put, List.setIfInBounds_toArray, List.set_cons_zero, List.set_cons_succ]) | ((apply plan_pure rfl; (intro w1; go_simp; try go_bits); with_reducible rfl); simp only [Act.put, List.setIfInBounds_toArray, List.set_cons_zero, List.set_cons_succ]) | ((refine' plan_load 0 rfl (by kernel_rfl) rfl ?_ ?_; rotate_left; (intro w1 hw1; go_simp; with_reducible rfl)); simp only [Act.put, List.setIfInBounds_toArray, List.set_cons_zero, List.set_cons_succ]))
              refine plan_nil ?_
              go_wp2
              (go_ret2; have hw : whole l = false := whole_no (List.getElem?_eq_getElem hlt) (List.getElem?_eq_getElem h0l) (by rw [HP.out, HF.out, Bool.eq_false_iff]; intro hgd; simp only [good, Bool.and_eq_true, beq_iff_eq] at hgd; simp_all); exact ⟨retSB (by unfold joined; rw [hw]; rfl) (by rw [hw]), HB2.out⟩)
          · have hcb3 : (ps != (l.length : Int)) = true := by simp [hc3]
            iterate 32 (first | (apply plan_skip rfl; simp only [Act.put, List.setIfInBounds_toArray, List.set_cons_zero, List.set_cons_succ]) | ((apply plan_pure rfl; (intro w1; go_simp; try go_bits); with_reducible rfl); simp only [Act.put, List.setIfInBounds_toArray, List.set_cons_zero, List.set_cons_succ]) | ((refine' plan_load 0 rfl (by kernel_rfl) rfl ?_ ?_; rotate_left; (intro w1 hw1; go_simp; with_reducible rfl)); simp only [Act.put, List.setIfInBounds_toArray, List.set_cons_zero, List.set_cons_succ]))
            refine plan_nil ?_
            go_wp2
            (go_ret2; have hw : whole l = false := whole_no (List.getElem?_eq_getElem hlt) (List.getElem?_eq_getElem h0l) (by rw [HP.out, HF.out, Bool.eq_false_iff]; intro hgd; simp only [good, Bool.and_eq_true, beq_iff_eq] at hgd; simp_all); exact ⟨retSB (by unfold joined; rw [hw]; rfl) (by rw [hw]), HB2.out⟩)
        · have hcb2 : (pt != (k : Int)) = true := by simp [hc2]
          iterate 32 (first | (apply plan_skip rfl; simp only [Act.put, List.setIfInBounds_toArray, List.set_cons_zero, List.set_cons_succ]) | ((apply plan_pure rfl; (intro w1; go_simp; try go_bits); with_reducible rfl); simp only [Act.put, List.setIfInBounds_toArray, List.set_cons_zero, List.set_cons_succ]) | ((refine' plan_load 0 rfl (by kernel_rfl) rfl ?_ ?_; rotate_left; (intro w1 hw1; go_simp; with_reducible rfl)); simp only [Act.put, List.setIfInBounds_toArray, List.set_cons_zero, List.set_cons_succ]))
          refine plan_nil ?_
          go_wp2
          (go_ret2; have hw : whole l = false := whole_no (List.getElem?_eq_getElem hlt) (List.getElem?_eq_getElem h0l) (by rw [HP.out, HF.out, Bool.eq_false_iff]; intro hgd; simp only [good, Bool.and_eq_true, beq_iff_eq] at hgd; simp_all); exact ⟨retSB (by unfold joined; rw [hw]; rfl) (by rw [hw]), HB2.out⟩)
      · have hcf : okPc ⟨ep, sq, pt, ps, d⟩ = false := by simpa using hc1
        rw [hcf]
        iterate 32 (first | (apply plan_skip rfl; simp only [Act.put, List.setIfInBounds_toArray, List.set_cons_zero, List.set_cons_succ]) | ((apply plan_pure rfl; (intro w1; go_simp; try go_bits); with_reducible rfl); simp only [Act.put, List.setIfInBounds_toArray, List.set_cons_zero, List.set_cons_succ]) | ((refine' plan_load 0 rfl (by kernel_rfl) rfl ?_ ?_; rotate_left; (intro w1 hw1; go_simp; with_reducible rfl)); simp only [Act.put, List.setIfInBounds_toArray, List.set_cons_zero, List.set_cons_succ]))
        refine plan_nil ?_
        go_wp2
        (go_ret2; have hw : whole l = false := whole_no (List.getElem?_eq_getElem hlt) (List.getElem?_eq_getElem h0l) (by rw [HP.out, HF.out, Bool.eq_false_iff]; intro hgd; simp only [good, Bool.and_eq_true, beq_iff_eq] at hgd; exact hc1 hgd.1.1.1.1); exact ⟨retSB (by unfold joined; rw [hw]; rfl) (by rw [hw]), HB2.out⟩)
    · obtain rfl : k = l.length := by omega
      by_cases h0 : l.length = 0
      · have hl0 : l = [] := List.eq_nil_of_length_eq_zero h0
        subst hl0
        go_wp2
        go_ret2
        exact ⟨retSB HS.out rfl, HB.out⟩
      · have hw : whole l = true := whole_yes (by omega) HG.out
        go_wp2
        go_ret2
        exact ⟨retSB (by rw [HS.out]; unfold joined; rw [hw]; rfl) (by rw [hw]; simp; omega), HB.out⟩
end Go.Proofs.YtmkpglabiikdeaaGreatDoor

