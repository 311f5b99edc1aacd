/-
  posthouse/disk.Disk.keep, Barrier and Crash.
-/
import Derived.Test.YtmkpglabiikdeaaGreatDoorDiskW
import Derived.Test.YtmkpglabiikdeaaGreatDoorRow
namespace Go.Proofs.YtmkpglabiikdeaaGreatDoor
open Go.RowKit PH

theorem flatN {α β : Type} (f : α → List β) (k : Nat) (hf : ∀ x, (f x).length = k) : ∀ (l : List α) (i j : Nat) (x : α), l[i]? = some x → j < k → (l.flatMap f)[i * k + j]? = (f x)[j]?
  | y :: l, 0, j, x, h, hj => by
    simp at h; subst h
    rw [List.flatMap_cons, Nat.zero_mul, Nat.zero_add, List.getElem?_append_left (by rw [hf]; exact hj)]
  | y :: l, i + 1, j, x, h, hj => by
    rw [List.flatMap_cons, List.getElem?_append_right (by rw [hf, Nat.succ_mul]; omega), hf]
    have e : (i + 1) * k + j - k = i * k + j := by rw [Nat.succ_mul]; omega
    rw [e]
    exact flatN f k hf l i j x (by simpa using h) hj

theorem waits_get {l : List (ByteArray × Int)} {k : Nat} {x : ByteArray × Int} (h : l[k]? = some x) : (waits l)[k * 2]? = some (.string x.1) ∧ (waits l)[k * 2 + 1]? = some (.int .i64 x.2) :=
  ⟨flatN _ 2 (fun _ => rfl) l k 0 x h (by omega), flatN _ 2 (fun _ => rfl) l k 1 x h (by omega)⟩

/-- What is kept when the first k waiting writes have been gone through. -/
def keepK (pick : Nat → Bool) (kept : List ByteArray) (wait : List (ByteArray × Int)) : Nat → List ByteArray
  | 0 => kept
  | k + 1 => match wait[k]? with
    | some x => if pick k then (keepK pick kept wait k).set x.2.toNat x.1 else keepK pick kept wait k
    | none => keepK pick kept wait k
theorem keepK_len (pick : Nat → Bool) (kept : List ByteArray) (wait : List (ByteArray × Int)) : ∀ k, (keepK pick kept wait k).length = kept.length
  | 0 => rfl
  | k + 1 => by
    unfold keepK
    cases wait[k]? with
    | none => exact keepK_len pick kept wait k
    | some x =>
      dsimp only
      split
      · rw [List.length_set]; exact keepK_len pick kept wait k
      · exact keepK_len pick kept wait k
theorem keepK_yes {pick : Nat → Bool} {kept : List ByteArray} {wait : List (ByteArray × Int)} {k : Nat} {x : ByteArray × Int} (h : wait[k]? = some x) (hp : pick k = true) : keepK pick kept wait (k + 1) = (keepK pick kept wait k).set x.2.toNat x.1 := by
  conv => lhs; unfold keepK
  rw [h]; dsimp only; rw [if_pos hp]
theorem keepK_no {pick : Nat → Bool} {kept : List ByteArray} {wait : List (ByteArray × Int)} {k : Nat} {x : ByteArray × Int} (h : wait[k]? = some x) (hp : pick k = false) : keepK pick kept wait (k + 1) = keepK pick kept wait k := by
  conv => lhs; unfold keepK
  rw [h]; dsimp only; rw [if_neg (by simp [hp])]
def keepD (D : Dk) (pick : Nat → Bool) : Dk := { D with kept := keepK pick D.kept D.wait D.wait.length, wait := [] }

set_option maxRecDepth 100000 in
set_option maxHeartbeats 800000 in
theorem keep_all {E W : World} {L : List HP} {b : Nat} {D : Dk} (x : Sat E W (isDisk b D :: L)) (ok : OkD D) (pick : Nat → Bool)
    (hp : ∀ (k : Nat) (W' : World), Sat E W' L → k < D.wait.length → Calls Tryz.prog 63 #[.int .i64 k] W' fun e w' => e = .returned (.bool (pick k)) ∧ w' = W') :
    Calls Tryz.prog 62 #[.pointer (some ⟨b, 0, none⟩), .func (.func 63) #[] #[]] W fun e w' => e = .returned (.tuple #[]) ∧ Sat E w' (isDisk b (keepD D pick) :: L) := by
  have HOK := Lib.hid ok
  have HP := Lib.hid hp
  clear ok hp
  obtain ⟨ak, ck, aw, cw, hx, hck, hcw⟩ := disk_open x
  obtain ⟨c0, c1, -⟩ := disk_cells hx
  obtain ⟨n, hn⟩ : ∃ n, D.wait.length = n := ⟨_, rfl⟩
  rw [hn] at c1
  have HN := Lib.hid hn
  have hn6 : n ≤ 1000000 := by rw [← hn]; exact HOK.out.wl
  rw [hn] at hx hcw
  clear x hn
  have HX := Lib.hid hx
  clear hx
  go_enter Tryz.func62, Tryz.ntmps62
  go_wp2
  go_loopw [11] (fun i wr => ∃ k : Nat, k ≤ n ∧ i = .int .i64 k ∧ Sat E wr (pt b (diskObj (.slice ak D.kept.length ck) (.slice aw n cw) D) :: row 90 1 (.slice ak D.kept.length ck) D.kept.length (sects (keepK pick D.kept D.wait k)) ::
      row 149 2 (.slice aw n cw) n (waits D.wait) :: L)) (fun i _ => n - (intOf i).toNat)
  case atStart => exact ⟨0, by omega, rfl, HX.out⟩
  case round =>
    obtain ⟨k, hk, rfl, hx⟩ := hrel
    by_cases hlt : k < n
    · have hlt2 : k < D.wait.length := by rw [HN.out]; exact hlt
      obtain ⟨⟨s, at_⟩, hw⟩ : ∃ x, D.wait[k]? = some x := ⟨_, List.getElem?_eq_getElem hlt2⟩
      obtain ⟨hat0, hat1⟩ := HOK.out.wk _ (List.mem_of_getElem? hw)
      obtain ⟨at', rfl⟩ : ∃ a : Nat, at_ = a := ⟨at_.toNat, by dsimp only at hat0; omega⟩
      have hat2 : at' < D.kept.length := by dsimp only at hat1; omega
      obtain ⟨g, cap, e, -, -, -, hsee⟩ := hx.p2.rowSees (by omega)
      cases e
      obtain ⟨w0, w1⟩ := waits_get hw
      have d0 := hsee _ _ w0
      have d1 := hsee _ _ w1
      rw [Nat.zero_add] at d0 d1
      have HW := Lib.hid hw
      have HXR := Lib.hid hx
      clear hsee hw w0 w1 hx hat0 hat1 c0 c1
      obtain ⟨pk, hpk⟩ : ∃ pk, pick k = pk := ⟨_, rfl⟩
      have HPK := Lib.hid hpk
      clear hpk
      cases pk
      · go_wp2_with (go_at_call 63; refine (HP.out k _ (HXR.out.alloc _).tail.tail.tail.tail hlt2).mono ?_; rintro e w2 ⟨rfl, rfl⟩; rw [HPK.out])
        refine ⟨⟨k + 1, by omega, by go_num, ?_⟩, by simp [intOf]; omega⟩
        rw [keepK_no HW.out HPK.out]
        exact (HXR.out.alloc _).tail
      · obtain ⟨gk, ck', e, -, -, -, hseek⟩ := HXR.out.p1.rowSees (by omega)
        cases e
        go_wp2_with (go_at_call 63; refine (HP.out k _ (HXR.out.alloc _).tail.tail.tail.tail hlt2).mono ?_; rintro e w2 ⟨rfl, rfl⟩; rw [HPK.out])
        obtain ⟨wa, hwa⟩ : ∃ wa, wr.alloc (.cells #[.string s, .int .i64 at'] 149) = wa := ⟨_, rfl⟩
        have hxa := HXR.out.alloc (.cells #[.string s, .int .i64 at'] 149)
        rw [hwa] at hxa ⊢
        have e0 := cell_blk hxa.at 0
        have e1 := cell_blk hxa.at 1
        have e2 := cell_blk hxa.p1.at 0
        clear hseek d0 d1
        refine wp_region_planL [(0, true), (1, true), (2, true), (3, true), (4, true), (5, true), (6, true), (7, true), (8, true), (9, false)]
          [(9, fun w1 => w1.cell? ⟨b, 0, none⟩ = some (.slice (some ⟨gk, 0, none⟩) D.kept.length ck) ∧ w1.cell? ⟨wr.heap.size, 0, none⟩ = some (.string s) ∧ w1.cell? ⟨wr.heap.size, 1, none⟩ = some (.int .i64 at'))] (by kernel_rfl) (by kernel_rfl) (by intro c a d v w h; cases d <;> exact h) ?_ ?_
        · exact ⟨⟨e2, e0, e1⟩, trivial⟩
        simp only [planOps, List.getElem?_cons_zero, List.getElem?_cons_succ]
        iterate 9 (first | ((apply plan_pure rfl; (intro w1; go_simp; try go_bits); with_reducible rfl); try simp only [Act.put, List.setIfInBounds_toArray, List.set_cons_zero, List.set_cons_succ]) | ((refine' plan_load 0 rfl (by kernel_rfl) rfl ?_ ?_; rotate_left; (intro w1 hw1; go_simp; with_reducible rfl)); try simp only [Act.put, List.setIfInBounds_toArray, List.set_cons_zero, List.set_cons_succ]))
        have hxb := hxa.drew.p2
        obtain ⟨_, _, e, -, -, -, hseek⟩ := hxb.rowSees (by omega)
        cases e
        have hcell : wa.drew.cell? ⟨gk, at', none⟩ = some (.string ((keepK pick D.kept D.wait k)[at']'(by rw [keepK_len]; exact hat2))) := by
          have := hseek at' _ (by simp [sects, List.getElem?_eq_getElem (show at' < (keepK pick D.kept D.wait k).length by rw [keepK_len]; exact hat2)]; rfl)
          rwa [Nat.zero_add] at this
        have hfree := hxb.rowFree at'
        refine plan_loud rfl (fun K hK => ?_); go_simp
        refine hK _ _ trivial (plan_nil ?_)
        clear hK K
        go_wp2
        refine ⟨⟨k + 1, by omega, by go_num, ?_⟩, by simp [intOf]; omega⟩
        rw [keepK_yes HW.out HPK.out]
        have hxc := (hxb.rowSet (i := at') (.string s)).p1.tail.p1
        rw [show sects ((keepK pick D.kept D.wait k).set ((at' : Int).toNat) s) = (sects (keepK pick D.kept D.wait k)).set at' (.string s) by simp [sects, List.map_set]]
        exact hxc
    · obtain rfl : k = n := by omega
      have hx := hx
      have e1 := cell_blk hx.at 1
      have f1 := frozen_blk hx.at 1
      have HXR := Lib.hid hx
      clear hx
      go_wp2
      refine bodyPost_end (results_none rfl _ _ _) rfl ⟨rfl, ?_⟩
      have hxc := ((HXR.out.setCell 1 (.slice none 0 0)).p2.tail.rowNil 149 2).p2.p2
      refine disk_close (vk := .slice ak D.kept.length ck) (vw := .slice none 0 0) ?_
      unfold keepD
      rw [HN.out]
      simp only [keepK_len]
      exact hxc

set_option maxRecDepth 100000 in
set_option maxHeartbeats 800000 in
theorem keep_some {E W : World} {L : List HP} {b : Nat} {D : Dk} (x : Sat E W (isDisk b D :: L)) (ok : OkD D) (q : Nat) (pick : Nat → Bool)
    (hp : ∀ (k : Nat) (W' : World), Sat E W' L → k < D.wait.length → Calls Tryz.prog 67 #[.int .i64 k, .pointer (some ⟨q, 0, none⟩)] W' fun e w' => e = .returned (.bool (pick k)) ∧ w' = W') :
    Calls Tryz.prog 62 #[.pointer (some ⟨b, 0, none⟩), .func (.func 67) #[] #[.pointer (some ⟨q, 0, none⟩)]] W fun e w' => e = .returned (.tuple #[]) ∧ Sat E w' (isDisk b (keepD D pick) :: L) := by
  have HOK := Lib.hid ok
  have HP := Lib.hid hp
  clear ok hp
  obtain ⟨ak, ck, aw, cw, hx, hck, hcw⟩ := disk_open x
  obtain ⟨c0, c1, -⟩ := disk_cells hx
  obtain ⟨n, hn⟩ : ∃ n, D.wait.length = n := ⟨_, rfl⟩
  rw [hn] at c1
  have HN := Lib.hid hn
  have hn6 : n ≤ 1000000 := by rw [← hn]; exact HOK.out.wl
  rw [hn] at hx hcw
  clear x hn
  have HX := Lib.hid hx
  clear hx
  go_enter Tryz.func62, Tryz.ntmps62
  go_wp2
  go_loopw [11] (fun i wr => ∃ k : Nat, k ≤ n ∧ i = .int .i64 k ∧ Sat E wr (pt b (diskObj (.slice ak D.kept.length ck) (.slice aw n cw) D) :: row 90 1 (.slice ak D.kept.length ck) D.kept.length (sects (keepK pick D.kept D.wait k)) ::
      row 149 2 (.slice aw n cw) n (waits D.wait) :: L)) (fun i _ => n - (intOf i).toNat)
  case atStart => exact ⟨0, by omega, rfl, HX.out⟩
  case round =>
    obtain ⟨k, hk, rfl, hx⟩ := hrel
    by_cases hlt : k < n
    · have hlt2 : k < D.wait.length := by rw [HN.out]; exact hlt
      obtain ⟨⟨s, at_⟩, hw⟩ : ∃ x, D.wait[k]? = some x := ⟨_, List.getElem?_eq_getElem hlt2⟩
      obtain ⟨hat0, hat1⟩ := HOK.out.wk _ (List.mem_of_getElem? hw)
      obtain ⟨at', rfl⟩ : ∃ a : Nat, at_ = a := ⟨at_.toNat, by dsimp only at hat0; omega⟩
      have hat2 : at' < D.kept.length := by dsimp only at hat1; omega
      obtain ⟨g, cap, e, -, -, -, hsee⟩ := hx.p2.rowSees (by omega)
      cases e
      obtain ⟨w0, w1⟩ := waits_get hw
      have d0 := hsee _ _ w0
      have d1 := hsee _ _ w1
      rw [Nat.zero_add] at d0 d1
      have HW := Lib.hid hw
      have HXR := Lib.hid hx
      clear hsee hw w0 w1 hx hat0 hat1 c0 c1
      obtain ⟨pk, hpk⟩ : ∃ pk, pick k = pk := ⟨_, rfl⟩
      have HPK := Lib.hid hpk
      clear hpk
      cases pk
      · go_wp2_with (go_at_call 67; refine (HP.out k _ (HXR.out.alloc _).tail.tail.tail.tail hlt2).mono ?_; rintro e w2 ⟨rfl, rfl⟩; rw [HPK.out])
        refine ⟨⟨k + 1, by omega, by go_num, ?_⟩, by simp [intOf]; omega⟩
        rw [keepK_no HW.out HPK.out]
        exact (HXR.out.alloc _).tail
      · obtain ⟨gk, ck', e, -, -, -, hseek⟩ := HXR.out.p1.rowSees (by omega)
        cases e
        go_wp2_with (go_at_call 67; refine (HP.out k _ (HXR.out.alloc _).tail.tail.tail.tail hlt2).mono ?_; rintro e w2 ⟨rfl, rfl⟩; rw [HPK.out])
        obtain ⟨wa, hwa⟩ : ∃ wa, wr.alloc (.cells #[.string s, .int .i64 at'] 149) = wa := ⟨_, rfl⟩
        have hxa := HXR.out.alloc (.cells #[.string s, .int .i64 at'] 149)
        rw [hwa] at hxa ⊢
        have e0 := cell_blk hxa.at 0
        have e1 := cell_blk hxa.at 1
        have e2 := cell_blk hxa.p1.at 0
        clear hseek d0 d1
        refine wp_region_planL [(0, true), (1, true), (2, true), (3, true), (4, true), (5, true), (6, true), (7, true), (8, true), (9, false)]
          [(9, fun w1 => w1.cell? ⟨b, 0, none⟩ = some (.slice (some ⟨gk, 0, none⟩) D.kept.length ck) ∧ w1.cell? ⟨wr.heap.size, 0, none⟩ = some (.string s) ∧ w1.cell? ⟨wr.heap.size, 1, none⟩ = some (.int .i64 at'))] (by kernel_rfl) (by kernel_rfl) (by intro c a d v w h; cases d <;> exact h) ?_ ?_
        · exact ⟨⟨e2, e0, e1⟩, trivial⟩
        simp only [planOps, List.getElem?_cons_zero, List.getElem?_cons_succ]
        iterate 9 (first | ((apply plan_pure rfl; (intro w1; go_simp; try go_bits); with_reducible rfl); try simp only [Act.put, List.setIfInBounds_toArray, List.set_cons_zero, List.set_cons_succ]) | ((refine' plan_load 0 rfl (by kernel_rfl) rfl ?_ ?_; rotate_left; (intro w1 hw1; go_simp; with_reducible rfl)); try simp only [Act.put, List.setIfInBounds_toArray, List.set_cons_zero, List.set_cons_succ]))
        have hxb := hxa.drew.p2
        obtain ⟨_, _, e, -, -, -, hseek⟩ := hxb.rowSees (by omega)
        cases e
        have hcell : wa.drew.cell? ⟨gk, at', none⟩ = some (.string ((keepK pick D.kept D.wait k)[at']'(by rw [keepK_len]; exact hat2))) := by
          have := hseek at' _ (by simp [sects, List.getElem?_eq_getElem (show at' < (keepK pick D.kept D.wait k).length by rw [keepK_len]; exact hat2)]; rfl)
          rwa [Nat.zero_add] at this
        have hfree := hxb.rowFree at'
        refine plan_loud rfl (fun K hK => ?_); go_simp
        refine hK _ _ trivial (plan_nil ?_)
        clear hK K
        go_wp2
        refine ⟨⟨k + 1, by omega, by go_num, ?_⟩, by simp [intOf]; omega⟩
        rw [keepK_yes HW.out HPK.out]
        have hxc := (hxb.rowSet (i := at') (.string s)).p1.tail.p1
        rw [show sects ((keepK pick D.kept D.wait k).set ((at' : Int).toNat) s) = (sects (keepK pick D.kept D.wait k)).set at' (.string s) by simp [sects, List.map_set]]
        exact hxc
    · obtain rfl : k = n := by omega
      have hx := hx
      have e1 := cell_blk hx.at 1
      have f1 := frozen_blk hx.at 1
      have HXR := Lib.hid hx
      clear hx
      go_wp2
      refine bodyPost_end (results_none rfl _ _ _) rfl ⟨rfl, ?_⟩
      have hxc := ((HXR.out.setCell 1 (.slice none 0 0)).p2.tail.rowNil 149 2).p2.p2
      refine disk_close (vk := .slice ak D.kept.length ck) (vw := .slice none 0 0) ?_
      unfold keepD
      rw [HN.out]
      simp only [keepK_len]
      exact hxc
end Go.Proofs.YtmkpglabiikdeaaGreatDoor

