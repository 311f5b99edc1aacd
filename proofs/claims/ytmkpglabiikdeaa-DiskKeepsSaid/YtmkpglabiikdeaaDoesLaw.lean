/-
  Layer 10: the law DiskDoes, walked.
-/
import Derived.Test.YtmkpglabiikdeaaLaw10
namespace Go.Proofs.Ytmkpglabiikdeaa
open Go.RowKit PH

set_option maxRecDepth 100000 in
set_option maxHeartbeats 400000 in
theorem sameS_ok {E W : World} {L : List HP} {l : List ByteArray} {a b : Option Addr} {ca cb n : Nat} (x : Sat E W (row 9 1 (.slice a n ca) n (sects l) :: row 9 1 (.slice b n cb) n (sects l) :: L)) (hn : l.length = n) (hl : n ≤ 1000000) :
    Calls Try.prog 42 #[.slice a n ca, .slice b n cb] W fun e w' => e = .returned (.bool true) ∧ Sat E w' (row 9 1 (.slice a n ca) n (sects l) :: row 9 1 (.slice b n cb) n (sects l) :: L) := by
  have HX := Lib.hid x
  have HN := Lib.hid hn
  clear x hn
  go_enter Try.func42, Try.ntmps42
  go_wp2
  go_loopw [5] (fun i wr => ∃ k : Nat, k ≤ n ∧ i = .int .i64 k ∧ Sat E wr (row 9 1 (.slice a n ca) n (sects l) :: row 9 1 (.slice b n cb) n (sects l) :: L)) (fun i _ => n - (intOf i).toNat)
  case atStart => exact ⟨0, by omega, rfl, HX.out⟩
  case round =>
    obtain ⟨k, hk, rfl, hx⟩ := hrel
    by_cases hlt : k < n
    · obtain ⟨s, hs⟩ : ∃ s, l[k]? = some s := ⟨_, List.getElem?_eq_getElem (by rw [HN.out]; exact hlt)⟩
      obtain ⟨ga, xa, e, -, -, -, hsa⟩ := hx.rowSees (by omega)
      cases e
      obtain ⟨gb, xb, e, -, -, -, hsb⟩ := hx.p1.rowSees (by omega)
      cases e
      have d0 : wr.drew.cell? ⟨ga, k, none⟩ = some (.string s) := by
        have := hsa k (.string s) (by simp [sects, hs])
        rwa [Nat.zero_add] at this
      have d1 : wr.drew.cell? ⟨gb, k, none⟩ = some (.string s) := by
        have := hsb k (.string s) (by simp [sects, hs])
        rwa [Nat.zero_add] at this
      have HXR := Lib.hid hx
      clear hx hsa hsb hs
      go_wp2
      refine wp_region_planL [(0, true), (1, true), (2, true), (3, true), (4, true), (5, true), (6, true), (7, true), (8, true)]
        [(9, fun w1 => w1.cell? ⟨ga, k, none⟩ = some (.string s) ∧ w1.cell? ⟨gb, k, none⟩ = some (.string s))] (by kernel_rfl) (by kernel_rfl) (by intro c a d v w h; cases d <;> exact h) ?_ ?_
      · exact ⟨⟨d0, d1⟩, trivial⟩
      simp only [planOps, List.getElem?_cons_zero, List.getElem?_cons_succ]
      iterate 9 (first | ((apply plan_pure rfl; (intro w1; go_simp; try go_bits); with_reducible rfl); try simp only [Act.put, List.setIfInBounds_toArray, List.set_cons_zero, List.set_cons_succ]) | ((refine' plan_load 0 rfl (by kernel_rfl) rfl ?_ ?_; rotate_left; (intro w1 hw1; go_simp; with_reducible rfl)); try simp only [Act.put, List.setIfInBounds_toArray, List.set_cons_zero, List.set_cons_succ]))
      refine plan_nil ?_
      go_wp2
      refine ⟨⟨k + 1, by omega, by go_num, HXR.out.drew⟩, by simp [intOf]; omega⟩
    · obtain rfl : k = n := by omega
      have HXR := Lib.hid hx
      clear hx
      go_wp2
      go_ret
      exact ⟨rfl, HXR.out⟩

/-- The disk behind the first k steps. -/
def runD (D : Dk) (l : List Sq) (k : Nat) : Dk := (l.take k).foldl (fun D x => doD D x.t) D
theorem runD_succ {D : Dk} {l : List Sq} {k : Nat} {x : Sq} (h : l[k]? = some x) : runD D l (k + 1) = doD (runD D l k) x.t := by
  unfold runD
  rw [List.take_add_one, h]
  show ((l.take k) ++ [x]).foldl _ _ = _
  rw [List.foldl_append]
  rfl
/-- What k steps leave of a disk that is as it ought to be. -/
structure Run (D0 D : Dk) (k : Nat) : Prop where
  ok : OkD D
  len : D.kept.length = D0.kept.length
  w : D.writes ≤ k
  b : D.barriers ≤ k
  wl : D.wait.length ≤ k
theorem burnD_all (D : Dk) : (burnD D).kept = D.kept ∧ (burnD D).wait = D.wait ∧ (burnD D).writes = D.writes ∧ (burnD D).barriers = D.barriers := burnD_same D
theorem Run.of {D0 D D' : Dk} {k : Nat} (h : Run D0 D k) (ok : OkD D') (e : D'.kept.length = D.kept.length) (w : D'.writes ≤ D.writes + 1) (b : D'.barriers ≤ D.barriers + 1) (l : D'.wait.length ≤ D.wait.length + 1) : Run D0 D' (k + 1) := by
  have h1 := h.w
  have h2 := h.b
  have h3 := h.wl
  exact ⟨ok, e.trans h.len, by omega, by omega, by omega⟩
theorem burn_of {D : Dk} : (burnD D).kept.length = D.kept.length ∧ (burnD D).writes ≤ D.writes + 1 ∧ (burnD D).barriers ≤ D.barriers + 1 ∧ (burnD D).wait.length ≤ D.wait.length + 1 := by
  obtain ⟨e1, e2, e3, e4⟩ := burnD_same D
  rw [e1, e2, e3, e4]
  exact ⟨rfl, by omega, by omega, by omega⟩
theorem Run.step {D0 D : Dk} {k : Nat} (h : Run D0 D k) (hk : k ≤ 100000) (t : St) (hi : t.i ≤ 9223372036854775807) : Run D0 (doD D t) (k + 1) := by
  have hw := h.w
  have hb := h.b
  have hl := h.wl
  obtain ⟨e1, e2, e3, e4⟩ := burnD_same D
  obtain ⟨g1, g2, g3, g4⟩ := burn_of (D := D)
  unfold doD
  split
  · have ok := h.ok.write t.i t.s (by omega) (by omega)
    unfold writeD at ok ⊢
    split at ok
    · rename_i c
      rw [if_pos c]
      split at ok
      · rename_i c2
        rw [if_pos c2]
        exact h.of ok g1 g2 g3 g4
      · rename_i c2
        rw [if_neg c2]
        exact h.of ok (by simp only [wroteD]; exact g1) (by simp only [wroteD, e3]; omega) (by simp only [wroteD, e4]; omega) (by simp only [wroteD, e2, List.length_append, List.length_singleton]; omega)
    · rename_i c
      rw [if_neg c]
      exact h.of ok rfl (by omega) (by omega) (by omega)
  split
  · have ok := h.ok.barrier (by omega)
    unfold barrierD at ok ⊢
    split at ok
    · rename_i c
      rw [if_pos c]
      split at ok
      · rename_i c2
        rw [if_pos c2]
        exact h.of ok g1 g2 g3 g4
      · rename_i c2
        rw [if_neg c2]
        exact h.of ok (by simp only [keepD, barredD, keepK_len]; exact g1) (by simp only [keepD, barredD, e3]; omega) (by simp only [keepD, barredD, e4]; omega) (by simp only [keepD, List.length_nil]; omega)
    · rename_i c
      rw [if_neg c]
      exact h.of ok rfl (by omega) (by omega) (by omega)
  split
  · have ok := h.ok.arm t.i hi
    unfold armD at ok ⊢
    split at ok
    · rename_i c
      rw [if_pos c]
      exact h.of ok rfl (by dsimp only; omega) (by dsimp only; omega) (by dsimp only; omega)
    · rename_i c
      rw [if_neg c]
      exact h.of ok rfl (by omega) (by omega) (by omega)
  split
  · have ok := h.ok.crash t.keep
    unfold crashD at ok ⊢
    split at ok
    · rename_i c
      rw [if_pos c]
      exact h.of ok (by simp only [keepD, keepK_len]) (by simp only [keepD]; omega) (by simp only [keepD]; omega) (by simp only [keepD, List.length_nil]; omega)
    · rename_i c
      rw [if_neg c]
      exact h.of ok rfl (by omega) (by omega) (by omega)
  exact ⟨h.ok, h.len, by omega, by omega, by omega⟩
theorem Run.zero {n : Nat} (h2 : n ≤ 65536) : Run (newD n) (newD n) 0 := ⟨newD_ok h2, rfl, by show (0 : Int) ≤ _; omega, by show (0 : Int) ≤ _; omega, Nat.le_refl _⟩
theorem run_all {n : Nat} (h2 : n ≤ 65536) {l : List Sq} (hi : ∀ x ∈ l, x.t.i ≤ 9223372036854775807) : ∀ k, k ≤ l.length → k ≤ 100000 → Run (newD n) (runD (newD n) l k) k
  | 0, _, _ => Run.zero h2
  | k + 1, hk, hk2 => by
    obtain ⟨x, hx⟩ : ∃ x, l[k]? = some x := ⟨_, List.getElem?_eq_getElem (by omega)⟩
    rw [runD_succ hx]
    exact (run_all h2 hi k (by omega) (by omega)).step (by omega) _ (hi x (List.mem_of_getElem? hx))
theorem Run.made {n : Nat} {D : Dk} {k : Nat} (h : Run (newD n) D k) (hn : 1 ≤ n) : madeB D = true := by
  unfold madeB
  rw [h.len, newD_len]
  exact decide_eq_true (by omega)

set_option maxRecDepth 100000 in
set_option maxHeartbeats 3200000 in
theorem diskDoes_ok {W : World} {n : Int} {l : List Sq} {a : Option Addr} {c : Nat} (hsee : Sees W a (sqs l)) (hall : ∀ x ∈ l, SeesI W x.a x.t.keep ∧ x.t.keep.length ≤ 9223372036854775807 ∧ x.t.s.size ≤ 9223372036854775807 ∧ x.t.i ≤ 9223372036854775807) (hl : l.length ≤ 9223372036854775807) :
    Calls Try.prog 7 #[.int .i64 n, .slice a l.length c] W (TrueBelow W) := by
  have hlr := large10_ok (c := c) hsee hl (fun x hx => ⟨(hall x hx).2.2.1, (hall x hx).2.1⟩)
  obtain ⟨r, hr⟩ : ∃ r, bigL l = r := ⟨_, rfl⟩
  obtain ⟨len, hlen⟩ : ∃ n, l.length = n := ⟨_, rfl⟩
  rw [hr, hlen] at hlr
  rw [hlen] at hl ⊢
  have HL := Lib.hid hlr
  have HR := Lib.hid hr
  have HLEN := Lib.hid hlen
  have HSEE := Lib.hid hsee
  have HALL := Lib.hid hall
  clear hlr hr hlen hsee hall
  cases r
  · have hl60 : len ≤ 60 := by rw [← HLEN.out]; exact (bigL_no HR.out).1
    by_cases h40 : 40 < n
    · by_cases h65 : n ≤ 65536
      · go_enter Try.func7, Try.ntmps7
        go_wp2_with (first | (go_at_call 26; refine HL.out.mono ?_; rintro e w2 ⟨rfl, rfl⟩) | (go_at_call 27; refine (knownD_ok _).mono ?_; rintro e w2 ⟨rfl, hb⟩))
        go_ret
        exact ⟨rfl, hb⟩
      · go_enter Try.func7, Try.ntmps7
        go_wp2_with (first | (go_at_call 26; refine HL.out.mono ?_; rintro e w2 ⟨rfl, rfl⟩) | (go_at_call 28; refine (new_bad (.inr (by omega))).mono ?_; rintro e w2 ⟨rfl, rfl⟩) | (go_at_call 27; refine (knownD_ok _).mono ?_; rintro e w2 ⟨rfl, hb⟩))
        go_ret
        exact ⟨rfl, hb⟩
    · by_cases h1 : n < 1
      · go_enter Try.func7, Try.ntmps7
        go_wp2_with (first | (go_at_call 26; refine HL.out.mono ?_; rintro e w2 ⟨rfl, rfl⟩) | (go_at_call 28; refine (new_bad (.inl h1)).mono ?_; rintro e w2 ⟨rfl, rfl⟩) | (go_at_call 27; refine (knownD_ok _).mono ?_; rintro e w2 ⟨rfl, hb⟩))
        go_ret
        exact ⟨rfl, hb⟩
      · obtain ⟨m, rfl⟩ : ∃ m : Nat, n = m := ⟨n.toNat, by omega⟩
        have hm1 : 1 ≤ m := by omega
        have hm2 : m ≤ 40 := by omega
        go_enter Try.func7, Try.ntmps7
        go_wp2_with (first
          | (go_at_call 26; refine HL.out.mono ?_; rintro e w2 ⟨rfl, hw⟩; subst w2)
          | (go_at_call 28; refine (new_ok (Sat.start _) hm1 (by omega)).mono ?_; rintro e w2 ⟨b, rfl, hx2⟩; have HX2 := Lib.hid hx2; clear hx2)
          | (go_at_call 36; refine (size_ok HX2.out).mono ?_; rintro e w3 ⟨rfl, rfl⟩; rw [newD_len])
          | (go_at_call 37; refine (refnew_ok HX2.out (by omega)).mono ?_; rintro e w4 ⟨x, rfl, hx4⟩; have HX4 := Lib.hid hx4; clear hx4))
        go_loopw [8] (fun i wr => ∃ k : Nat, k ≤ len ∧ i = .int .i64 k ∧ Sat W wr (isRef x (runD (newD m) l k) :: isDisk b (runD (newD m) l k) :: [heapIs W])) (fun i _ => len - (intOf i).toNat)
        case atStart => exact ⟨0, by omega, rfl, HX4.out⟩
        case round =>
          clear HX4 HX2
          obtain ⟨k, hk, rfl, hx⟩ := hrel
          have hrun := run_all (n := m) (by omega) (fun x hx => (HALL.out x hx).2.2.2) k (by rw [HLEN.out]; exact hk) (by omega)
          obtain ⟨D, hD⟩ : ∃ D, runD (newD m) l k = D := ⟨_, rfl⟩
          rw [hD] at hrun hx
          have HD := Lib.hid hD
          have HRUN := Lib.hid hrun
          have HX := Lib.hid hx
          clear hD hrun hx
          by_cases hlt : k < len
          · obtain ⟨sq, hsq⟩ : ∃ x, l[k]? = some x := ⟨_, List.getElem?_eq_getElem (by rw [HLEN.out]; exact hlt)⟩
            have hsm := (bigL_no HR.out).2 sq (List.mem_of_getElem? hsq)
            have hsa := HALL.out sq (List.mem_of_getElem? hsq)
            obtain ⟨⟨kd, i0, s, zs⟩, ax, cx⟩ := sq
            obtain ⟨g, off, rfl, c0, c1, c2, c3⟩ := (HSEE.out.kept HX.out.p2.below).step hsq
            have hrun2 := HRUN.out.step (by omega) ⟨kd, i0, s, zs⟩ hsa.2.2.2
            dsimp only at c0 c1 c2 c3 hsm hsa
            have HSQ := Lib.hid hsq
            have HSA := Lib.hid hsa
            have HSM := Lib.hid hsm
            clear hsq hsa hsm
            obtain ⟨rs, hrs⟩ : ∃ r, doS D ⟨kd, i0, s, zs⟩ = r := ⟨_, rfl⟩
            obtain ⟨re, hre⟩ : ∃ r, doE D ⟨kd, i0, s, zs⟩ = r := ⟨_, rfl⟩
            obtain ⟨D2, hD2⟩ : ∃ r, doD D ⟨kd, i0, s, zs⟩ = r := ⟨_, rfl⟩
            rw [hD2] at hrun2
            have HRS := Lib.hid hrs
            have HRE := Lib.hid hre
            have HD2 := Lib.hid hD2
            have HRUN2 := Lib.hid hrun2
            clear hrs hre hD2 hrun2
            go_wp2_with (first
              | (go_at_call 29; refine (do_ok (t := ⟨kd, i0, s, zs⟩) (a := ax) (c := cx) HX.out.p1 HRUN.out.ok (by have := HRUN.out.b; omega) (by have := HSM.out.1; dsimp only; omega) (by have := HSM.out.2; dsimp only; omega) (fun W' h => HSA.out.1.kept h.p1.below)).mono ?_; rintro e w2 ⟨rfl, hx2⟩; rw [HRS.out, HRE.out]; rw [HD2.out] at hx2; have HX2 := Lib.hid hx2; clear c0 c1 c2 c3; obtain ⟨g', off', e, c0, c1, c2, c3⟩ := (HSEE.out.kept hx2.p2.below).step HSQ.out; cases e; dsimp only at c0 c1 c2 c3; clear hx2)
              | (go_at_call 38; refine (refdo_ok (t := ⟨kd, i0, s, zs⟩) (a := ax) (c := cx) HX2.out.p1 (HRUN.out.made hm1) HRUN.out.ok (by have := HRUN.out.w; omega) (by have := HRUN.out.b; omega) (by have := HSM.out.1; dsimp only; omega) (by have := HSM.out.2; dsimp only; omega) (fun W' h => HSA.out.1.kept h.p1.below)).mono ?_; rintro e w3 ⟨rfl, hx3⟩; rw [HRS.out, HRE.out]; rw [HD2.out] at hx3; have HX3 := Lib.hid hx3; clear c0 c1 c2 c3 hx3)
              | (go_at_call 39; refine (count2_ok HX3.out.p1 (HRUN2.out.made hm1)).mono ?_; rintro e w4 ⟨rfl, hx4⟩; have HX4 := Lib.hid hx4; clear hx4))
            obtain ⟨ak5, ck5, aw5, cw5, hx5, -, -⟩ := ref_open HX4.out.p1
            obtain ⟨-, e1, -, e3, e4, e5, -⟩ := ref_cells hx5.drew
            have hmd : (madeB D2 && D2.dead) = D2.dead := by rw [HRUN2.out.made hm1]; rfl
            have hmw : (if madeB D2 = true then (D2.wait.length : Int) else 0) = D2.wait.length := by rw [HRUN2.out.made hm1]; rfl
            have HMD := Lib.hid hmd
            have HMW := Lib.hid hmw
            have HX5 := Lib.hid HX4.out.drew
            clear hx5 hmd hmw
            obtain ⟨dd, hdd⟩ : ∃ d, D2.dead = d := ⟨_, rfl⟩
            obtain ⟨wl, hwl⟩ : ∃ d, D2.wait.length = d := ⟨_, rfl⟩
            obtain ⟨ww, hww⟩ : ∃ d, D2.writes = d := ⟨_, rfl⟩
            obtain ⟨bb, hbb⟩ : ∃ d, D2.barriers = d := ⟨_, rfl⟩
            rw [hdd] at e3
            rw [hwl] at e1
            rw [hww] at e4 ⊢
            rw [hbb] at e5 ⊢
            have HDD := Lib.hid hdd
            have HWL := Lib.hid hwl
            clear hdd hwl hww hbb
            refine wp_region_planL [(0, true), (1, true), (2, true), (3, true), (4, true), (5, true), (6, true), (7, true), (8, true), (9, true), (11, true), (12, true), (13, true), (14, true), (10, false), (15, true), (16, true), (17, true), (18, true), (20, true), (21, true), (22, true), (23, true), (24, true), (19, false), (25, true), (26, true), (27, true), (28, true), (29, true), (30, true), (31, true), (32, true), (33, true), (34, true), (35, true), (36, true), (37, true), (38, true), (39, true), (40, true), (41, true), (42, true)]
              [(43, fun w1 => w1.cell? ⟨x, 1, none⟩ = some (.slice aw5 wl cw5) ∧ w1.cell? ⟨x, 3, none⟩ = some (.bool dd) ∧ w1.cell? ⟨x, 4, none⟩ = some (.int .i64 ww) ∧ w1.cell? ⟨x, 5, none⟩ = some (.int .i64 bb))] (by kernel_rfl) (by kernel_rfl) (by intro c a d v w h; cases d <;> exact h) ?_ ?_
            · exact ⟨⟨e1, e3, e4, e5⟩, trivial⟩
            simp only [planOps, List.getElem?_cons_zero, List.getElem?_cons_succ]
            iterate 14 (first | ((apply plan_pure rfl; (intro w1; go_simp; try go_bits); with_reducible rfl); try simp only [Act.put, List.setIfInBounds_toArray, List.set_cons_zero, List.set_cons_succ]) | ((refine' plan_load 0 rfl (by kernel_rfl) rfl ?_ ?_; rotate_left; (intro w1 hw1; go_simp; with_reducible rfl)); try simp only [Act.put, List.setIfInBounds_toArray, List.set_cons_zero, List.set_cons_succ]))
            refine plan_loud rfl (fun K hK => ?_); go_simp
            refine (dead_ok HX5.out).mono ?_
            rintro e w5 ⟨rfl, rfl⟩
            rw [HMD.out, HDD.out]
            dsimp only
            refine hK _ _ ⟨⟨e1, e3, e4, e5⟩, trivial⟩ ?_
            clear hK K
            try simp only [Act.put, List.setIfInBounds_toArray, List.set_cons_zero, List.set_cons_succ]
            iterate 9 (first | ((apply plan_pure rfl; (intro w1; go_simp; try go_bits); with_reducible rfl); try simp only [Act.put, List.setIfInBounds_toArray, List.set_cons_zero, List.set_cons_succ]) | ((refine' plan_load 0 rfl (by kernel_rfl) rfl ?_ ?_; rotate_left; (intro w1 hw1; go_simp; with_reducible rfl)); try simp only [Act.put, List.setIfInBounds_toArray, List.set_cons_zero, List.set_cons_succ]))
            refine plan_loud rfl (fun K hK => ?_); go_simp
            refine (waiting_ok HX5.out).mono ?_
            rintro e w5 ⟨rfl, rfl⟩
            rw [HMW.out, HWL.out]
            dsimp only
            refine hK _ _ ⟨⟨e1, e3, e4, e5⟩, trivial⟩ ?_
            clear hK K
            try simp only [Act.put, List.setIfInBounds_toArray, List.set_cons_zero, List.set_cons_succ]
            iterate 18 (first | ((apply plan_pure rfl; (intro w1; go_simp; try go_bits); with_reducible rfl); try simp only [Act.put, List.setIfInBounds_toArray, List.set_cons_zero, List.set_cons_succ]) | ((refine' plan_load 0 rfl (by kernel_rfl) rfl ?_ ?_; rotate_left; (intro w1 hw1; go_simp; with_reducible rfl)); try simp only [Act.put, List.setIfInBounds_toArray, List.set_cons_zero, List.set_cons_succ]))
            refine plan_nil ?_
            go_wp2
            refine ⟨⟨k + 1, by omega, by go_num, ?_⟩, by simp [intOf]; omega⟩
            rw [runD_succ HSQ.out, HD.out]
            dsimp only
            rw [HD2.out]
            exact HX5.out.p1
          · obtain rfl : k = len := by omega
            have hkl : D.kept.length = m := by rw [HRUN.out.len, newD_len]
            obtain ⟨ak5, ck5, aw5, cw5, hx5, -, -⟩ := ref_open HX.out
            rw [hkl] at hx5
            have e0 := (ref_cells hx5.drew).1
            have HX5 := Lib.hid hx5.drew
            have HKL := Lib.hid hkl
            clear hx5 hkl
            go_wp2
            refine wp_region_planL [(0, true), (2, true), (3, true), (4, true), (5, true), (1, false), (6, false), (7, true), (8, false), (9, true), (10, true)]
              [(6, fun w1 => w1.cell? ⟨x, 0, none⟩ = some (.slice ak5 m ck5))] (by kernel_rfl) (by kernel_rfl) (by intro c a d v w h; cases d <;> exact h) ?_ ?_
            · exact ⟨e0, trivial⟩
            simp only [planOps, List.getElem?_cons_zero, List.getElem?_cons_succ]
            iterate 5 (first | ((apply plan_pure rfl; (intro w1; go_simp; try go_bits); with_reducible rfl); try simp only [Act.put, List.setIfInBounds_toArray, List.set_cons_zero, List.set_cons_succ]) | ((refine' plan_load 0 rfl (by kernel_rfl) rfl ?_ ?_; rotate_left; (intro w1 hw1; go_simp; with_reducible rfl)); try simp only [Act.put, List.setIfInBounds_toArray, List.set_cons_zero, List.set_cons_succ]))
            refine plan_loud rfl (fun K hK => ?_); go_simp
            refine (image_ok HX5.out.p3 HRUN.out.ok).mono ?_
            rintro e w6 ⟨v, rfl, hx6⟩
            obtain ⟨av, cv, rfl, -⟩ := rowSlice hx6
            rw [HKL.out] at hx6 ⊢
            dsimp only
            unfold StrRow at hx6
            rw [HKL.out] at hx6
            refine hK _ _ ⟨cell_blk hx6.p2.at 0, trivial⟩ ?_
            clear hK K
            refine plan_loud rfl (fun K hK => ?_); go_simp
            refine (sameS_ok hx6.p3.p1 HKL.out (by omega)).mono ?_
            rintro e w7 ⟨rfl, hx7⟩
            dsimp only
            refine hK _ _ trivial ?_
            clear hK K
            try simp only [Act.put, List.setIfInBounds_toArray, List.set_cons_zero, List.set_cons_succ]
            iterate 1 (first | ((apply plan_pure rfl; (intro w1; go_simp; try go_bits); with_reducible rfl); try simp only [Act.put, List.setIfInBounds_toArray, List.set_cons_zero, List.set_cons_succ]) | ((refine' plan_load 0 rfl (by kernel_rfl) rfl ?_ ?_; rotate_left; (intro w1 hw1; go_simp; with_reducible rfl)); try simp only [Act.put, List.setIfInBounds_toArray, List.set_cons_zero, List.set_cons_succ]))
            refine plan_loud rfl (fun K hK => ?_); go_simp
            refine (knownD_ok _).mono ?_
            rintro e w8 ⟨rfl, hb⟩
            dsimp only
            refine hK _ _ trivial ?_
            clear hK K
            try simp only [Act.put, List.setIfInBounds_toArray, List.set_cons_zero, List.set_cons_succ]
            iterate 2 (first | ((apply plan_pure rfl; (intro w1; go_simp; try go_bits); with_reducible rfl); try simp only [Act.put, List.setIfInBounds_toArray, List.set_cons_zero, List.set_cons_succ]) | ((refine' plan_load 0 rfl (by kernel_rfl) rfl ?_ ?_; rotate_left; (intro w1 hw1; go_simp; with_reducible rfl)); try simp only [Act.put, List.setIfInBounds_toArray, List.set_cons_zero, List.set_cons_succ]))
            refine plan_nil ?_
            go_wp2
            go_ret
            exact ⟨rfl, diskNil_known hx7.p5 hb⟩
  · go_enter Try.func7, Try.ntmps7
    go_wp2_with (first | (go_at_call 26; refine HL.out.mono ?_; rintro e w2 ⟨rfl, rfl⟩) | (go_at_call 27; refine (knownD_ok _).mono ?_; rintro e w2 ⟨rfl, hb⟩))
    go_ret
    exact ⟨rfl, hb⟩
end Go.Proofs.Ytmkpglabiikdeaa
