/-
  Layer 10's document: New, Write, Read of the reference disk, walked.
-/
import Derived.Test.YtmkpglabiikdeaaGreatDoorRef
namespace Go.Proofs.YtmkpglabiikdeaaGreatDoor
open Go.RowKit PH

theorem pad_empty : pad ByteArray.empty = zeros 128 := by
  show ByteArray.empty ++ zeros (128 - 0) = _
  rw [ByteArray.empty_append]
theorem newD_len (n : Nat) : (newD n).kept.length = n := by simp [newD]
theorem sects_new (k : Nat) : sects (newD k).kept ++ [Value.string (zeros 128)] = sects (newD (k + 1)).kept := by
  simp only [newD, sects]
  rw [List.replicate_succ', List.map_append]; rfl

set_option maxRecDepth 100000 in
set_option maxHeartbeats 800000 in
theorem refnew_ok {E W : World} {L : List HP} {n : Nat} (x : Sat E W L) (h2 : n ≤ 65536) :
    Calls Tryz.prog 31 #[.int .i64 n] W fun e w' => ∃ b, e = .returned (.pointer (some ⟨b, 0, none⟩)) ∧ Sat E w' (isRef b (newD n) :: L) := by
  have h0 : Sat E (W.alloc (refObj (.slice none 0 0) (.slice none 0 0) (newD 0))) (isRef W.heap.size (newD 0) :: L) := ref_close (((x.rowNil 120 2).rowNil 9 1).alloc (refObj (.slice none 0 0) (.slice none 0 0) (newD 0)))
  have HX := Lib.hid h0
  clear x h0
  obtain ⟨z, hz⟩ : ∃ z, zeros 128 = z := ⟨_, rfl⟩
  have hB0 : ∀ W, Calls Tryz.prog 69 #[.string ByteArray.empty] W fun e w' => e = .returned (.string z) ∧ w' = W := fun W => by
    have := blank_ok ByteArray.empty W (by show 0 ≤ _; omega)
    rw [pad_empty, hz] at this; exact this
  have HB := Lib.hid hB0
  clear hB0
  have HZ := Lib.hid hz
  clear hz
  obtain ⟨b, hb⟩ : ∃ b, W.heap.size = b := ⟨_, rfl⟩
  have HBB := Lib.hid hb
  go_enter Tryz.func31, Tryz.ntmps31
  go_wp2
  go_loopw [4] (fun i wr => ∃ k : Nat, k ≤ n ∧ i = .int .i64 k ∧ Sat E wr (isRef b (newD k) :: L)) (fun i _ => n - (intOf i).toNat)
  case atStart => exact ⟨0, by omega, rfl, by rw [← hb]; exact HX.out⟩
  case round =>
    clear hb
    obtain ⟨k, hk, rfl, hx⟩ := hrel
    by_cases hlt : k < n
    · obtain ⟨ak, ck, aw, cw, hx, -, -⟩ := ref_open hx
      rw [newD_len] at hx
      have c0 : wr.drew.cell? ⟨b, 0, none⟩ = some (.slice ak k ck) := cell_blk hx.drew.at 0
      have HXR := Lib.hid hx
      clear hx
      go_wp2
      refine wp_region_planL [(0, true), (1, true), (2, true), (3, true), (4, true), (5, false), (6, false), (7, false), (8, true), (9, true), (10, false)] [(10, fun w1 => w1.cell? ⟨b, 0, none⟩ = some (.slice ak k ck))] (by kernel_rfl) (by kernel_rfl) (by intro c a d v w h; cases d <;> exact h) ?_ ?_
      · exact ⟨c0, trivial⟩
      simp only [planOps, List.getElem?_cons_zero, List.getElem?_cons_succ]
      iterate 5 (first | ((apply plan_pure rfl; (intro w1; go_simp; try go_bits); with_reducible rfl); try simp only [Act.put, List.setIfInBounds_toArray, List.set_cons_zero, List.set_cons_succ]) | ((refine' plan_load 0 rfl (by kernel_rfl) rfl ?_ ?_; rotate_left; (intro w1 hw1; go_simp; with_reducible rfl)); try simp only [Act.put, List.setIfInBounds_toArray, List.set_cons_zero, List.set_cons_succ]))
      refine plan_loud rfl (fun K hK => ?_); go_simp
      refine (HB.out _).mono ?_
      rintro e w3 ⟨rfl, rfl⟩
      dsimp only
      refine hK _ _ ⟨c0, trivial⟩ ?_
      clear hK K
      refine plan_loud rfl (fun K hK => ?_); go_simp
      refine hK _ _ ⟨cell_al c0, trivial⟩ ?_
      clear hK K
      refine plan_loud rfl (fun K hK => ?_)
      refine wp_app1 _ _ 43 rfl HXR.out.drew.p1 16 (.string ByteArray.empty) (by kernel_rfl) Tryz.underlying43 rfl rfl [.string z] rfl rfl (by simp [Value.oneCell']) (by omega) (by omega) ?_
      intro v8 w8 hx8 _
      obtain ⟨g8, cap8, rfl, -⟩ := hx8.rowSees (by omega)
      have hx8 := hx8.p1
      have c8 := cell_blk hx8.at 0
      have f8 := frozen_blk hx8.at 0
      refine hK _ _ ⟨c8, trivial⟩ ?_
      clear hK K
      try simp only [Act.put, List.setIfInBounds_toArray, List.set_cons_zero, List.set_cons_succ]
      iterate 2 (first | ((apply plan_pure rfl; (intro w1; go_simp; try go_bits); with_reducible rfl); try simp only [Act.put, List.setIfInBounds_toArray, List.set_cons_zero, List.set_cons_succ]) | ((refine' plan_load 0 rfl (by kernel_rfl) rfl ?_ ?_; rotate_left; (intro w1 hw1; go_simp; with_reducible rfl)); try simp only [Act.put, List.setIfInBounds_toArray, List.set_cons_zero, List.set_cons_succ]))
      refine plan_loud rfl (fun K hK => ?_); go_simp
      refine hK _ _ trivial (plan_nil ?_)
      clear hK K
      go_wp2
      refine ⟨⟨k + 1, by omega, by go_num, ?_⟩, by simp [intOf]; omega⟩
      have hx9 := hx8.setCell 0 (.slice (some ⟨g8, 0, none⟩) (k + 1) cap8)
      refine ref_close (vk := .slice (some ⟨g8, 0, none⟩) (k + 1) cap8) (vw := .slice aw (newD k).wait.length cw) ?_
      rw [newD_len, ← sects_new, HZ.out]
      exact hx9
    · obtain rfl : k = n := by omega
      have HXR := Lib.hid hx
      clear hx
      go_wp2
      go_ret
      exact ⟨b, rfl, HXR.out⟩

theorem madeE {D : Dk} (hm : madeB D = true) (i : Int) : thereE D i = if D.dead then 30 else if i < 0 ∨ (D.kept.length : Int) ≤ i then 3 else 0 := by
  unfold thereE aliveE
  rw [hm]
  cases D.dead <;> simp

set_option maxRecDepth 100000 in
set_option maxHeartbeats 800000 in
theorem refwrite_ok {E W : World} {L : List HP} {b : Nat} {D : Dk} (x : Sat E W (isRef b D :: L)) (hm : madeB D = true) (ok : OkD D) (hw1 : D.writes < 1000000) (i : Int) (s : ByteArray) (hs : s.size ≤ 9223372036854775807) :
    Calls Tryz.prog 73 #[.pointer (some ⟨b, 0, none⟩), .int .i64 i, .string s] W fun e w' => e = .returned (.int .i64 (writeE D i s)) ∧ Sat E w' (isRef b (writeD D i s) :: L) := by
  have hme := madeE hm i
  have HS := Lib.hid x
  have HOK := Lib.hid ok
  obtain ⟨ak, ck, aw, cw, hx, -, -⟩ := ref_open x
  obtain ⟨c0, -, -, c3, -, -, -⟩ := ref_cells hx
  clear x ok
  have HX := Lib.hid hx
  clear hx
  obtain ⟨dd, hd⟩ : ∃ dd, D.dead = dd := ⟨_, rfl⟩
  rw [hd] at c3 hme
  obtain ⟨n, hn⟩ : ∃ n, D.kept.length = n := ⟨_, rfl⟩
  rw [hn] at c0 hme
  clear hd
  have HN := Lib.hid hn
  clear hn
  cases dd
  · by_cases hi : i < 0
    · have he : thereE D i = 3 := by rw [hme]; simp [hi]
      have HE := Lib.hid he
      clear he hme
      go_enter Tryz.func73, Tryz.ntmps73
      go_wp2
      go_ret
      exact ⟨retI (by unfold writeE; rw [HE.out, if_neg (by decide)]), by unfold writeD; rw [if_neg (by rw [HE.out]; exact fun h => absurd h.1 (by decide))]; exact HS.out⟩
    · by_cases hi2 : (n : Int) ≤ i
      · have he : thereE D i = 3 := by rw [hme]; simp [hi2]
        have HE := Lib.hid he
        clear he hme
        go_enter Tryz.func73, Tryz.ntmps73
        go_wp2
        go_ret
        exact ⟨retI (by unfold writeE; rw [HE.out, if_neg (by decide)]), by unfold writeD; rw [if_neg (by rw [HE.out]; exact fun h => absurd h.1 (by decide))]; exact HS.out⟩
      · have he : thereE D i = 0 := by rw [hme]; simp [hi, hi2]
        have HE := Lib.hid he
        clear he hme
        by_cases hl : 128 < s.size
        · go_enter Tryz.func73, Tryz.ntmps73
          go_wp2
          go_ret
          exact ⟨retI (by unfold writeE; rw [HE.out, if_pos rfl, if_pos hl]), by unfold writeD; rw [if_neg (fun h => h.2 hl)]; exact HS.out⟩
        · by_cases h2 : D.fuse = 0
          · have H2 := Lib.hid h2
            have hd : decide (D.fuse = 0) = true := by simp [h2]
            have HD := Lib.hid hd
            clear h2 hd
            go_enter Tryz.func73, Tryz.ntmps73
            go_wp2_with (go_at_call 74; refine (refburn_ok HS.out HOK.out.f0 HOK.out.f1).mono ?_; rintro e w3 ⟨rfl, hx3⟩; rw [HD.out])
            go_ret
            exact ⟨retI (by unfold writeE burnE; rw [HE.out, if_pos rfl, if_neg hl, if_pos H2.out]), by unfold writeD; rw [if_pos ⟨HE.out, hl⟩, if_pos H2.out]; exact hx3⟩
          · have H2 := Lib.hid h2
            have hd : decide (D.fuse = 0) = false := by simp [h2]
            have HD := Lib.hid hd
            clear h2 hd
            have hwl := HOK.out.wl
            rw [← (burnD_same D).2.1] at hwl
            have hw0 := HOK.out.w0
            rw [← (burnD_same D).2.2.1] at hw0 hw1
            obtain ⟨z, hz⟩ : ∃ z, pad s = z := ⟨_, rfl⟩
            have HB := Lib.hid (fun W => (hz ▸ blank_ok s W hs : Calls Tryz.prog 69 #[.string s] W fun e w' => e = .returned (.string z) ∧ w' = W))
            have HZ := Lib.hid hz
            clear hz
            obtain ⟨D2, hD2⟩ : ∃ D2, burnD D = D2 := ⟨_, rfl⟩
            rw [hD2] at hwl hw0 hw1
            have HD2 := Lib.hid hD2
            clear hD2
            go_enter Tryz.func73, Tryz.ntmps73
            go_wp2_with (go_at_call 74; refine (refburn_ok HS.out HOK.out.f0 HOK.out.f1).mono ?_; rintro e w3 ⟨rfl, hx3⟩; rw [HD.out]; rw [HD2.out] at hx3; obtain ⟨ak3, ck3, aw3, cw3, hx4, -, -⟩ := ref_open hx3; have c4 := (ref_cells hx4).2.2.2.2.1; have f4 := (ref_cells hx4).2.2.2.2.2.2 4; have HX4 := Lib.hid hx4; clear hx3 hx4)
            have hx5 := (HX4.out.setCell 4 (.int .i64 (D2.writes + 1))).drew
            have c1 : (w3.setCell ⟨b, 4, none⟩ (.int .i64 (D2.writes + 1))).drew.cell? ⟨b, 1, none⟩ = some (.slice aw3 D2.wait.length cw3) := cell_blk hx5.at 1
            have HX5 := Lib.hid hx5
            clear hx5 c4 f4 c0 c3
            refine wp_region_planL [(0, true), (1, true), (2, true), (3, true), (4, true), (5, true), (6, true), (7, false), (8, true), (9, false), (10, false), (11, true), (12, true), (13, false)] [(13, fun w1 => w1.cell? ⟨b, 1, none⟩ = some (.slice aw3 D2.wait.length cw3))] (by kernel_rfl) (by kernel_rfl) (by intro c a d v w h; cases d <;> exact h) ?_ ?_
            · exact ⟨c1, trivial⟩
            simp only [planOps, List.getElem?_cons_zero, List.getElem?_cons_succ]
            iterate 7 (first | ((apply plan_pure rfl; (intro w1; go_simp; try go_bits); with_reducible rfl); try simp only [Act.put, List.setIfInBounds_toArray, List.set_cons_zero, List.set_cons_succ]) | ((refine' plan_load 0 rfl (by kernel_rfl) rfl ?_ ?_; rotate_left; (intro w1 hw1; go_simp; with_reducible rfl)); try simp only [Act.put, List.setIfInBounds_toArray, List.set_cons_zero, List.set_cons_succ]))
            refine plan_loud rfl (fun K hK => ?_); go_simp
            refine (HB.out _).mono ?_
            rintro e w6 ⟨rfl, rfl⟩
            dsimp only
            refine hK _ _ ⟨c1, trivial⟩ ?_
            clear hK K
            try simp only [Act.put, List.setIfInBounds_toArray, List.set_cons_zero, List.set_cons_succ]
            iterate 1 (first | ((apply plan_pure rfl; (intro w1; go_simp; try go_bits); with_reducible rfl); try simp only [Act.put, List.setIfInBounds_toArray, List.set_cons_zero, List.set_cons_succ]) | ((refine' plan_load 0 rfl (by kernel_rfl) rfl ?_ ?_; rotate_left; (intro w1 hw1; go_simp; with_reducible rfl)); try simp only [Act.put, List.setIfInBounds_toArray, List.set_cons_zero, List.set_cons_succ]))
            refine plan_loud rfl (fun K hK => ?_); go_simp
            refine hK _ _ ⟨cell_al c1, trivial⟩ ?_
            clear hK K
            refine plan_loud rfl (fun K hK => ?_)
            refine wp_app1 _ _ 110 rfl HX5.out.p2 24 (.agg #[.int .i64 0, .string ByteArray.empty]) (by kernel_rfl) Tryz.underlying110 rfl rfl [.int .i64 i, .string z] (by rw [World.size_drew, World.size_setCell]; rfl) rfl (by simp [Value.oneCell']) (by omega) (by omega) ?_
            intro v8 w8 hx8 _
            obtain ⟨g8, cap8, rfl, -⟩ := hx8.rowSees (by omega)
            have hx8 := hx8.p1
            have c8 := cell_blk hx8.at 1
            have f8 := frozen_blk hx8.at 1
            refine hK _ _ ⟨c8, trivial⟩ ?_
            clear hK K
            try simp only [Act.put, List.setIfInBounds_toArray, List.set_cons_zero, List.set_cons_succ]
            iterate 2 (first | ((apply plan_pure rfl; (intro w1; go_simp; try go_bits); with_reducible rfl); try simp only [Act.put, List.setIfInBounds_toArray, List.set_cons_zero, List.set_cons_succ]) | ((refine' plan_load 0 rfl (by kernel_rfl) rfl ?_ ?_; rotate_left; (intro w1 hw1; go_simp; with_reducible rfl)); try simp only [Act.put, List.setIfInBounds_toArray, List.set_cons_zero, List.set_cons_succ]))
            refine plan_loud rfl (fun K hK => ?_); go_simp
            refine hK _ _ trivial (plan_nil ?_)
            clear hK K
            go_wp2
            go_ret
            refine ⟨retI (by unfold writeE burnE; rw [HE.out, if_pos rfl, if_neg hl, if_neg H2.out]), ?_⟩
            have hx9 := hx8.setCell 1 (.slice (some ⟨g8, 0, none⟩) (D2.wait.length + 1) cap8)
            unfold writeD
            rw [if_pos ⟨HE.out, hl⟩, if_neg H2.out]
            unfold wroteD
            rw [HZ.out, HD2.out]
            refine ref_close (vk := .slice ak3 D2.kept.length ck3) (vw := .slice (some ⟨g8, 0, none⟩) (D2.wait.length + 1) cap8) ?_
            simpa [rwaits, refObj] using hx9.p2.p1
  · have he : thereE D i = 30 := by rw [hme]; rfl
    have HE := Lib.hid he
    clear he hme
    go_enter Tryz.func73, Tryz.ntmps73
    go_wp2
    go_ret
    exact ⟨retI (by unfold writeE; rw [HE.out, if_neg (by decide)]), by unfold writeD; rw [if_neg (by rw [HE.out]; exact fun h => absurd h.1 (by decide))]; exact HS.out⟩
end Go.Proofs.YtmkpglabiikdeaaGreatDoor

