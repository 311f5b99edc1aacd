/-
  Layer 10: the law DiskKeeps, walked.
-/
import Derived.Test.YtmkpglabiikdeaaDoesLaw
namespace Go.Proofs.Ytmkpglabiikdeaa
open Go.RowKit PH

/-- A disk of eight sectors that lives, without a fuse. -/
def calm (K : List ByteArray) (Q : List (ByteArray × Int)) (w b : Int) : Dk := { kept := K, wait := Q, fuse := -1, dead := false, writes := w, barriers := b }
section
variable {K : List ByteArray} {Q : List (ByteArray × Int)} {w b : Int}
theorem calm_made (h : K.length = 8) : madeB (calm K Q w b) = true := by unfold madeB calm; dsimp only; rw [h]; rfl
theorem calm_alive (h : K.length = 8) : aliveE (calm K Q w b) = 0 := by unfold aliveE; rw [calm_made h]; rfl
theorem calm_there (h : K.length = 8) (i : Int) : thereE (calm K Q w b) i = if i < 0 ∨ 8 ≤ i then 3 else 0 := by
  rw [madeE (calm_made h)]
  show (if i < 0 ∨ ((K.length : Nat) : Int) ≤ i then (3 : Int) else 0) = _
  rw [h]; rfl
theorem calm_burn : burnD (calm K Q w b) = calm K Q w b := rfl
theorem crash_calm {D : Dk} (h : madeB D = true) (zs : List Int) : crashD D zs = calm (keepK (inKeep zs) D.kept D.wait D.wait.length) [] D.writes D.barriers := by
  unfold crashD; rw [if_pos h]; rfl
theorem calm_yes (h : K.length = 8) {i : Int} {s : ByteArray} (h0 : 0 ≤ i) (h8 : i < 8) (hs : s.size ≤ 128) : writeE (calm K Q w b) i s = 0 ∧ writeD (calm K Q w b) i s = calm K (Q ++ [(pad s, i)]) (w + 1) b := by
  have ht : thereE (calm K Q w b) i = 0 := by rw [calm_there h, if_neg (by omega)]
  constructor
  · unfold writeE; rw [if_pos ht, if_neg (by omega)]; rfl
  · unfold writeD; rw [if_pos ⟨ht, by omega⟩, if_neg (by show ¬ (-1 : Int) = 0; omega)]; rfl
theorem calm_no (h : K.length = 8) {i : Int} {s : ByteArray} (hn : ¬ (0 ≤ i ∧ i < 8 ∧ s.size ≤ 128)) : (writeE (calm K Q w b) i s = 3 ∨ writeE (calm K Q w b) i s = 4) ∧ writeD (calm K Q w b) i s = calm K Q w b := by
  by_cases hi : i < 0 ∨ 8 ≤ i
  · have ht : thereE (calm K Q w b) i = 3 := by rw [calm_there h, if_pos hi]
    constructor
    · unfold writeE; rw [ht, if_neg (by omega)]; exact .inl rfl
    · unfold writeD; rw [if_neg (by rw [ht]; exact fun h => absurd h.1 (by decide))]
  · have ht : thereE (calm K Q w b) i = 0 := by rw [calm_there h, if_neg hi]
    have hs : 128 < s.size := by
      rcases Nat.lt_or_ge 128 s.size with h' | h'
      · exact h'
      · exact absurd ⟨by omega, by omega, h'⟩ hn
    constructor
    · unfold writeE; rw [if_pos ht, if_pos hs]; exact .inr rfl
    · unfold writeD; rw [if_neg (fun h => h.2 hs)]
theorem calm_barrier (h : K.length = 8) : barrierE (calm K Q w b) = 0 ∧ barrierD (calm K Q w b) = calm (keepK (fun _ => true) K Q Q.length) [] w (b + 1) := by
  constructor
  · unfold barrierE; rw [if_pos (calm_alive h)]; rfl
  · unfold barrierD; rw [if_pos (calm_alive h), if_neg (by show ¬ (-1 : Int) = 0; omega)]; rfl
theorem calm_read (h : K.length = 8) {i : Int} (h0 : 0 ≤ i) (h8 : i < 8) : thereE (calm K [] w b) i = 0 ∧ readV (calm K [] w b) i = K.getD i.toNat ByteArray.empty :=
  ⟨by rw [calm_there h, if_neg (by omega)], rfl⟩
end

/-- Has sector k what it had, or what one of the first j writes said? -/
def anyB (nk wk : ByteArray) (Q : List (ByteArray × Int)) (k j : Nat) : Bool := (nk.toList == wk.toList) || (Q.take j).any fun x => x.2 == (k : Int) && x.1.toList == nk.toList
theorem anyB_zero (nk wk : ByteArray) (Q : List (ByteArray × Int)) (k : Nat) : anyB nk wk Q k 0 = (nk.toList == wk.toList) := by simp [anyB]
theorem anyB_succ {nk wk : ByteArray} {Q : List (ByteArray × Int)} {k j : Nat} {x : ByteArray × Int} (h : Q[j]? = some x) : anyB nk wk Q k (j + 1) = (anyB nk wk Q k j || (x.2 == (k : Int) && x.1.toList == nk.toList)) := by
  unfold anyB
  rw [List.take_add_one, h]
  simp [Bool.or_assoc]
theorem anyB_all {K : List ByteArray} {Q : List (ByteArray × Int)} {pick : Nat → Bool} {k : Nat} {nk wk : ByteArray} (hQ : ∀ x ∈ Q, 0 ≤ x.2) (hn : (keepK pick K Q Q.length)[k]? = some nk) (hw : K[k]? = some wk) : anyB nk wk Q k Q.length = true := by
  unfold anyB
  rw [List.take_length]
  rcases keepK_get pick K Q k Q.length with h | ⟨x, hx, hk, h⟩
  · rw [hn, hw] at h; cases h; simp
  · rw [hn] at h
    cases h
    have h0 := hQ x hx
    have : (Q.any fun y => y.2 == (k : Int) && y.1.toList == x.1.toList) = true := List.any_eq_true.2 ⟨x, hx, by simp; omega⟩
    rw [this]; simp

theorem SeesI.none {w : World} : SeesI w none [] := fun j u hj => by simp at hj

/-- What goes on behind 'more'. -/
def keepsI (W : World) (b : Nat) (v was : Value) (K : List ByteArray) (Q : List (ByteArray × Int)) (w0 b0 : Int) : List HP :=
  row 57 2 v Q.length (rwaits Q) :: isDisk b (calm K Q w0 b0) :: row 9 1 was 8 (sects K) :: [heapIs W]
theorem runD_zero (D : Dk) (l : List Sq) : runD D l 0 = D := rfl
attribute [local irreducible] newD zeros pad runD
set_option maxRecDepth 100000 in
set_option maxHeartbeats 6400000 in
theorem diskKeeps_ok {W : World} {l mo : List Sq} {zs : List Int} {a a2 az : Option Addr} {c c2 cz : Nat} (hsee : Sees W a (sqs l)) (hall : ∀ x ∈ l, SeesI W x.a x.t.keep ∧ x.t.keep.length ≤ 9223372036854775807 ∧ x.t.s.size ≤ 9223372036854775807 ∧ x.t.i ≤ 9223372036854775807) (hl : l.length ≤ 9223372036854775807)
    (hsee2 : Sees W a2 (sqs mo)) (hall2 : ∀ x ∈ mo, SeesI W x.a x.t.keep ∧ x.t.keep.length ≤ 9223372036854775807 ∧ x.t.s.size ≤ 9223372036854775807 ∧ x.t.i ≤ 9223372036854775807) (hl2 : mo.length ≤ 9223372036854775807)
    (hz : SeesI W az zs) (hlz : zs.length ≤ 9223372036854775807) :
    Calls Try.prog 6 #[.slice a l.length c, .slice a2 mo.length c2, .slice az zs.length cz] W (TrueBelow W) := by
  have hlr := large10_ok (c := c) hsee hl (fun x hx => ⟨(hall x hx).2.2.1, (hall x hx).2.1⟩)
  have hlr2 := large10_ok (c := c2) hsee2 hl2 (fun x hx => ⟨(hall2 x hx).2.2.1, (hall2 x hx).2.1⟩)
  obtain ⟨r, hr⟩ : ∃ r, bigL l = r := ⟨_, rfl⟩
  obtain ⟨r2, hr2⟩ : ∃ r, bigL mo = r := ⟨_, rfl⟩
  obtain ⟨len, hlen⟩ : ∃ n, l.length = n := ⟨_, rfl⟩
  obtain ⟨len2, hlen2⟩ : ∃ n, mo.length = n := ⟨_, rfl⟩
  obtain ⟨lz, hlz'⟩ : ∃ n, zs.length = n := ⟨_, rfl⟩
  rw [hr, hlen] at hlr
  rw [hr2, hlen2] at hlr2
  rw [hlen] at hl ⊢
  rw [hlen2] at hl2 ⊢
  rw [hlz'] at hlz ⊢
  have HL := Lib.hid hlr
  have HL2 := Lib.hid hlr2
  have HR := Lib.hid hr
  have HR2 := Lib.hid hr2
  have HLEN := Lib.hid hlen
  have HLEN2 := Lib.hid hlen2
  have HLZ := Lib.hid hlz'
  have HSEE := Lib.hid hsee
  have HSEE2 := Lib.hid hsee2
  have HZ := Lib.hid hz
  have HALL := Lib.hid hall
  have HALL2 := Lib.hid hall2
  clear hlr hlr2 hr hr2 hlen hlen2 hlz' hsee hsee2 hall hall2 hz
  cases r
  · cases r2
    · by_cases h60 : 60 < lz
      · go_enter Try.func6, Try.ntmps6
        go_wp2_with (first | (go_at_call 26; with_reducible refine HL.out.mono ?_; rintro e w2 ⟨rfl, hw⟩; subst w2) | (go_at_call 26; with_reducible refine HL2.out.mono ?_; rintro e w2 ⟨rfl, hw⟩; subst w2) | (go_at_call 27; refine (knownD_ok _).mono ?_; rintro e w2 ⟨rfl, hb⟩))
        go_ret
        exact ⟨rfl, hb⟩
      · have hl60 : len ≤ 60 := by rw [← HLEN.out]; exact (bigL_no HR.out).1
        have hl61 : len2 ≤ 60 := by rw [← HLEN2.out]; exact (bigL_no HR2.out).1
        go_enter Try.func6, Try.ntmps6
        go_wp2_with (first
          | (go_at_call 26; with_reducible refine HL.out.mono ?_; rintro e w2 ⟨rfl, hw⟩; subst w2)
          | (go_at_call 26; with_reducible refine HL2.out.mono ?_; rintro e w2 ⟨rfl, hw⟩; subst w2)
          | (go_at_call 28; refine (new_ok (n := 8) (Sat.start _) (by omega) (by omega)).mono ?_; rintro e w2 ⟨b, rfl, hx2⟩; have HX2 := Lib.hid hx2; clear hx2))
        go_loopw [9] (fun i wr => ∃ k : Nat, k ≤ len ∧ i = .int .i64 k ∧ Sat W wr (isDisk b (runD (newD 8) l k) :: [heapIs W])) (fun i _ => len - (intOf i).toNat)
        case atStart => exact ⟨0, by omega, rfl, by rw [runD_zero]; exact HX2.out⟩
        case round =>
          clear HX2
          obtain ⟨k, hk, rfl, hx⟩ := hrel
          have hrun := run_all (n := 8) (by omega) (fun x hx => (HALL.out x hx).2.2.2) k (by rw [HLEN.out]; exact hk) (by omega)
          obtain ⟨D, hD⟩ : ∃ D, runD (newD 8) l k = D := ⟨_, rfl⟩
          rw [hD] at hrun hx
          have HD := Lib.hid hD
          have HRUN := Lib.hid hrun
          have HX := Lib.hid hx
          clear hD hrun hx
          by_cases hlt : k < len
          · obtain ⟨sq, hsq⟩ : ∃ x, l[k]? = some x := ⟨_, List.getElem?_eq_getElem (by rw [HLEN.out]; exact hlt)⟩
            have hsm := (bigL_no HR.out).2 sq (List.mem_of_getElem? hsq)
            have hsa := HALL.out sq (List.mem_of_getElem? hsq)
            obtain ⟨⟨kd, i0, s, zs⟩, ax, cx⟩ := sq
            obtain ⟨g, off, rfl, c0, c1, c2, c3⟩ := (HSEE.out.kept HX.out.p1.below).step hsq
            dsimp only at c0 c1 c2 c3 hsm hsa
            have HSQ := Lib.hid hsq
            have HSA := Lib.hid hsa
            have HSM := Lib.hid hsm
            clear hsq hsa hsm
            go_wp2_with (go_at_call 29; refine (do_ok (t := ⟨kd, i0, s, zs⟩) (a := ax) (c := cx) HX.out HRUN.out.ok (by have := HRUN.out.b; omega) (by have := HSM.out.1; dsimp only; omega) (by have := HSM.out.2; dsimp only; omega) (fun W' h => HSA.out.1.kept h.below)).mono ?_; rintro e w2 ⟨rfl, hx2⟩; have HX2 := Lib.hid hx2; clear hx2 c0 c1 c2 c3)
            refine ⟨⟨k + 1, by omega, by go_num, ?_⟩, by simp [intOf]; omega⟩
            rw [runD_succ HSQ.out, HD.out]
            exact HX2.out
          · have hmd := HRUN.out.made (by omega)
            have hkl : D.kept.length = 8 := by rw [HRUN.out.len, newD_len]
            have hcr := crash_calm hmd []
            rw [keepK_none] at hcr
            have hok := HRUN.out.ok.crash []
            have hwr := HRUN.out.w
            have hbr := HRUN.out.b
            have hw0 := HRUN.out.ok.w0
            have hb0 := HRUN.out.ok.b0
            rw [hcr] at hok
            obtain ⟨K, hK⟩ : ∃ K, D.kept = K := ⟨_, rfl⟩
            obtain ⟨w0, hww⟩ : ∃ K, D.writes = K := ⟨_, rfl⟩
            obtain ⟨b0, hbb⟩ : ∃ K, D.barriers = K := ⟨_, rfl⟩
            rw [hK] at hcr hok hkl
            rw [hww] at hcr hok hwr hw0
            rw [hbb] at hcr hok hbr hb0
            have HCR := Lib.hid hcr
            have HKL := Lib.hid hkl
            have HOK := Lib.hid hok
            clear hcr hkl hok hK hww hbb hmd
            go_wp2_with (first
              | (go_at_call 30; refine (crash_ok (a := none) (c := 0) (zs := []) HX.out HRUN.out.ok (fun W' _ => SeesI.none) (by show 0 ≤ _; omega)).mono ?_; rintro e w2 ⟨rfl, hx2⟩; rw [HCR.out] at hx2; have HX2 := Lib.hid hx2; clear hx2)
              | (go_at_call 31; refine (image_ok HX2.out HOK.out).mono ?_; rintro e w3 ⟨was, rfl, hx3⟩; obtain ⟨aw, cw, rfl, -⟩ := rowSlice hx3; unfold StrRow at hx3; rw [show (calm K [] w0 b0).kept = K from rfl, HKL.out] at hx3 ⊢; have HX3 := Lib.hid hx3; clear hx3))
            go_loopw [11, 12] (fun v i wr => ∃ k : Nat, ∃ Q : List (ByteArray × Int), k ≤ len2 ∧ i = .int .i64 k ∧ Q.length ≤ k ∧ Sat W wr (keepsI W b v (.slice aw 8 cw) K Q (w0 + Q.length) b0) ∧ OkD (calm K Q (w0 + Q.length) b0)) (fun _ i _ => len2 - (intOf i).toNat)
            case atStart =>
              refine ⟨0, [], by omega, rfl, Nat.le_refl _, ?_, ?_⟩
              · have h := (HX3.out.p1.rowNil 57 2)
                unfold keepsI
                simpa [rwaits, calm] using h
              · simpa [calm] using HOK.out
            case round =>
              clear HX3 HX2
              obtain ⟨k, Q, hk, rfl, hQk, hx, hok⟩ := hrel
              unfold keepsI at hx
              have HXQ := Lib.hid hx
              have HOKQ := Lib.hid hok
              clear hx hok
              by_cases hlt2 : k < len2
              · obtain ⟨sq, hsq⟩ : ∃ x, mo[k]? = some x := ⟨_, List.getElem?_eq_getElem (by rw [HLEN2.out]; exact hlt2)⟩
                have hsm := (bigL_no HR2.out).2 sq (List.mem_of_getElem? hsq)
                obtain ⟨⟨kd, i0, s, zs'⟩, ax, cx⟩ := sq
                obtain ⟨g, off, rfl, c0, c1, c3, -⟩ := (HSEE2.out.kept HXQ.out.p3.below).step hsq
                dsimp only at c0 c1 c3 hsm
                have HSQ := Lib.hid hsq
                have hss : s.size ≤ 200 := hsm.1
                clear hsq hsm
                by_cases k1 : kd = 1
                · subst k1
                  have e1 : wr.drew.cell? ⟨g, off + k * 4 + 1, none⟩ = some (.int .i64 i0) := c1
                  have e3 : wr.drew.cell? ⟨g, off + k * 4 + 2, none⟩ = some (.string s) := c3
                  by_cases hy : 0 ≤ i0 ∧ i0 < 8 ∧ s.size ≤ 128
                  · obtain ⟨y1, y2⟩ := calm_yes (Q := Q) (w := w0 + Q.length) (b := b0) HKL.out hy.1 hy.2.1 hy.2.2
                    have hok2 := HOKQ.out.write i0 s (by show w0 + (Q.length : Int) < 1000000; omega) (by show Q.length < 1000000; omega)
                    rw [y2] at hok2
                    obtain ⟨z, hzz⟩ : ∃ z, pad s = z := ⟨_, rfl⟩
                    rw [hzz] at y2 hok2
                    have HB : Hid (∀ W, Calls Try.prog 33 #[.string s] W fun e w' => e = .returned (.string z) ∧ w' = W) := Lib.hid fun W => by
                      have := blank_ok s W (by omega)
                      rw [hzz] at this; exact this
                    have Y1 := Lib.hid y1
                    have Y2 := Lib.hid y2
                    have HOK2 := Lib.hid hok2
                    clear y1 y2 hok2 hzz hy
                    go_wp2
                    refine wp_region_planL [(0, true), (1, true), (2, true), (3, true), (4, true), (5, true), (6, true), (7, true), (8, true), (9, true), (10, true), (11, false), (12, true)]
                      [(11, fun w1 => w1.cell? ⟨g, off + k * 4 + 1, none⟩ = some (.int .i64 i0) ∧ w1.cell? ⟨g, off + k * 4 + 2, none⟩ = some (.string s))] (by kernel_rfl) (by kernel_rfl) (by intro c a d v w h; cases d <;> exact h) ?_ ?_
                    · exact ⟨⟨e1, e3⟩, trivial⟩
                    simp only [planOps, List.getElem?_cons_zero, List.getElem?_cons_succ]
                    iterate 11 (first | ((apply plan_pure rfl; (intro w1; go_simp; try go_bits); with_reducible rfl); try simp only [Act.put, List.setIfInBounds_toArray, List.set_cons_zero, List.set_cons_succ]) | ((refine' plan_load 0 rfl (by kernel_rfl) rfl ?_ ?_; rotate_left; (intro w1 hw1; go_simp; with_reducible rfl)); try simp only [Act.put, List.setIfInBounds_toArray, List.set_cons_zero, List.set_cons_succ]))
                    refine plan_loud rfl (fun K hK => ?_); go_simp
                    refine (write_ok HXQ.out.drew.p1 HOKQ.out i0 s (by omega)).mono ?_
                    rintro e w5 ⟨rfl, hx5⟩
                    rw [Y1.out]
                    rw [Y2.out] at hx5
                    dsimp only
                    refine hK _ _ trivial ?_
                    clear hK K c0 c1 c3 e1 e3
                    try simp only [Act.put, List.setIfInBounds_toArray, List.set_cons_zero, List.set_cons_succ]
                    iterate 1 (first | ((apply plan_pure rfl; (intro w1; go_simp; try go_bits); with_reducible rfl); try simp only [Act.put, List.setIfInBounds_toArray, List.set_cons_zero, List.set_cons_succ]) | ((refine' plan_load 0 rfl (by kernel_rfl) rfl ?_ ?_; rotate_left; (intro w1 hw1; go_simp; with_reducible rfl)); try simp only [Act.put, List.setIfInBounds_toArray, List.set_cons_zero, List.set_cons_succ]))
                    refine plan_nil ?_
                    obtain ⟨g', off', e, -, c1, c3, -⟩ := (HSEE2.out.kept hx5.p3.below).step HSQ.out
                    cases e
                    dsimp only at c1 c3
                    have e1 : w5.drew.cell? ⟨g, off + k * 4 + 1, none⟩ = some (.int .i64 i0) := c1
                    have e3 : w5.drew.cell? ⟨g, off + k * 4 + 2, none⟩ = some (.string s) := c3
                    have HX5 := Lib.hid hx5.drew
                    clear hx5 c1 c3
                    go_wp2
                    refine wp_region_planL [(0, true), (1, true), (2, true), (3, true), (4, true), (5, true), (6, true), (7, true), (8, true), (9, true), (10, true), (11, false), (12, true), (13, false), (14, false), (15, true)]
                      [(16, fun w1 => w1.cell? ⟨g, off + k * 4 + 1, none⟩ = some (.int .i64 i0) ∧ w1.cell? ⟨g, off + k * 4 + 2, none⟩ = some (.string s))] (by kernel_rfl) (by kernel_rfl) (by intro c a d v w h; cases d <;> exact h) ?_ ?_
                    · exact ⟨⟨e1, e3⟩, trivial⟩
                    simp only [planOps, List.getElem?_cons_zero, List.getElem?_cons_succ]
                    iterate 11 (first | ((apply plan_pure rfl; (intro w1; go_simp; try go_bits); with_reducible rfl); try simp only [Act.put, List.setIfInBounds_toArray, List.set_cons_zero, List.set_cons_succ]) | ((refine' plan_load 0 rfl (by kernel_rfl) rfl ?_ ?_; rotate_left; (intro w1 hw1; go_simp; with_reducible rfl)); try simp only [Act.put, List.setIfInBounds_toArray, List.set_cons_zero, List.set_cons_succ]))
                    refine plan_loud rfl (fun K hK => ?_); go_simp
                    refine (HB.out _).mono ?_
                    rintro e w6 ⟨rfl, rfl⟩
                    dsimp only
                    refine hK _ _ ⟨⟨e1, e3⟩, trivial⟩ ?_
                    clear hK K
                    try simp only [Act.put, List.setIfInBounds_toArray, List.set_cons_zero, List.set_cons_succ]
                    iterate 1 ((apply plan_pure rfl; (intro w1; go_simp; try go_bits); with_reducible rfl); try simp only [Act.put, List.setIfInBounds_toArray, List.set_cons_zero, List.set_cons_succ])
                    refine plan_loud rfl (fun K hK => ?_); go_simp
                    refine hK _ _ ⟨⟨cell_al e1, cell_al e3⟩, trivial⟩ ?_
                    clear hK K
                    refine plan_loud rfl (fun K hK => ?_)
                    refine wp_app1 _ _ 53 rfl HX5.out.p1 24 (.agg #[.int .i64 0, .string ByteArray.empty]) (by kernel_rfl) Try.underlying53 rfl rfl [.int .i64 i0, .string z] rfl rfl (by simp [Value.oneCell']) (by omega) (by omega) ?_
                    intro v8 w8 hx8 _
                    obtain ⟨g'', off'', e, -, c1, c3, -⟩ := (HSEE2.out.kept hx8.p3.below).step HSQ.out
                    cases e
                    dsimp only at c1 c3
                    refine hK _ _ ⟨⟨c1, c3⟩, trivial⟩ ?_
                    clear c1 c3
                    clear hK K
                    try simp only [Act.put, List.setIfInBounds_toArray, List.set_cons_zero, List.set_cons_succ]
                    iterate 1 ((apply plan_pure rfl; (intro w1; go_simp; try go_bits); with_reducible rfl); try simp only [Act.put, List.setIfInBounds_toArray, List.set_cons_zero, List.set_cons_succ])
                    refine plan_nil ?_
                    go_wp2
                    refine ⟨⟨k + 1, Q ++ [(z, i0)], by omega, by go_num, by simp; omega, ?_, ?_⟩, by simp [intOf]; omega⟩
                    · unfold keepsI
                      have e : w0 + ((Q ++ [(z, i0)]).length : Int) = w0 + Q.length + 1 := by simp; omega
                      rw [e]
                      simpa [rwaits] using hx8
                    · have e : w0 + ((Q ++ [(z, i0)]).length : Int) = w0 + Q.length + 1 := by simp; omega
                      rw [e]
                      exact HOK2.out
                  · obtain ⟨y1, y2⟩ := calm_no (Q := Q) (w := w0 + Q.length) (b := b0) HKL.out hy
                    obtain ⟨ye, hye⟩ : ∃ y, writeE (calm K Q (w0 + Q.length) b0) i0 s = y := ⟨_, rfl⟩
                    rw [hye] at y1
                    have hne : (ye == 0) = false := by rcases y1 with rfl | rfl <;> rfl
                    have Y1 := Lib.hid hye
                    have Y2 := Lib.hid y2
                    clear y1 y2 hy hye
                    go_wp2
                    refine wp_region_planL [(0, true), (1, true), (2, true), (3, true), (4, true), (5, true), (6, true), (7, true), (8, true), (9, true), (10, true), (11, false), (12, true)]
                      [(11, fun w1 => w1.cell? ⟨g, off + k * 4 + 1, none⟩ = some (.int .i64 i0) ∧ w1.cell? ⟨g, off + k * 4 + 2, none⟩ = some (.string s))] (by kernel_rfl) (by kernel_rfl) (by intro c a d v w h; cases d <;> exact h) ?_ ?_
                    · exact ⟨⟨e1, e3⟩, trivial⟩
                    simp only [planOps, List.getElem?_cons_zero, List.getElem?_cons_succ]
                    iterate 11 (first | ((apply plan_pure rfl; (intro w1; go_simp; try go_bits); with_reducible rfl); try simp only [Act.put, List.setIfInBounds_toArray, List.set_cons_zero, List.set_cons_succ]) | ((refine' plan_load 0 rfl (by kernel_rfl) rfl ?_ ?_; rotate_left; (intro w1 hw1; go_simp; with_reducible rfl)); try simp only [Act.put, List.setIfInBounds_toArray, List.set_cons_zero, List.set_cons_succ]))
                    refine plan_loud rfl (fun K hK => ?_); go_simp
                    refine (write_ok HXQ.out.drew.p1 HOKQ.out i0 s (by omega)).mono ?_
                    rintro e w5 ⟨rfl, hx5⟩
                    rw [Y1.out]
                    rw [Y2.out] at hx5
                    have HX5 := Lib.hid hx5
                    dsimp only
                    refine hK _ _ trivial ?_
                    clear hK K c0 c1 c3 e1 e3 hx5
                    try simp only [Act.put, List.setIfInBounds_toArray, List.set_cons_zero, List.set_cons_succ]
                    iterate 1 (first | ((apply plan_pure rfl; (intro w1; go_simp; try go_bits); with_reducible rfl); try simp only [Act.put, List.setIfInBounds_toArray, List.set_cons_zero, List.set_cons_succ]) | ((refine' plan_load 0 rfl (by kernel_rfl) rfl ?_ ?_; rotate_left; (intro w1 hw1; go_simp; with_reducible rfl)); try simp only [Act.put, List.setIfInBounds_toArray, List.set_cons_zero, List.set_cons_succ]))
                    refine plan_nil ?_
                    go_wp2
                    refine ⟨⟨k + 1, Q, by omega, by go_num, by omega, ?_, HOKQ.out⟩, by simp [intOf]; omega⟩
                    exact HX5.out.p1
                · have hb : (kd != 1) = true := by simp [k1]
                  go_wp2
                  refine ⟨⟨k + 1, Q, by omega, by go_num, by omega, HXQ.out, HOKQ.out⟩, by simp [intOf]; omega⟩
              · obtain rfl : k = len2 := by omega
                obtain ⟨N, hN⟩ : ∃ N, keepK (inKeep zs) K Q Q.length = N := ⟨_, rfl⟩
                have hNl : N.length = 8 := by rw [← hN, keepK_len, HKL.out]
                have hcr := crash_calm (calm_made (Q := Q) (w := w0 + Q.length) (b := b0) HKL.out) zs
                rw [show keepK (inKeep zs) (calm K Q (w0 + Q.length) b0).kept (calm K Q (w0 + Q.length) b0).wait (calm K Q (w0 + Q.length) b0).wait.length = N from hN, show (calm K Q (w0 + Q.length) b0).writes = w0 + Q.length from rfl, show (calm K Q (w0 + Q.length) b0).barriers = b0 from rfl] at hcr
                have hok4 := HOKQ.out.crash zs
                rw [hcr] at hok4
                have hcrash := crash_ok (c := cz) (zs := zs) HXQ.out.p1 HOKQ.out (fun W' h => HZ.out.kept h.p2.below) (by rw [HLZ.out]; exact hlz)
                rw [HLZ.out, hcr] at hcrash
                have hQ0 : ∀ x ∈ Q, 0 ≤ x.2 := fun x hx => (HOKQ.out.wk x hx).1
                obtain ⟨nq, hnq⟩ : ∃ n, Q.length = n := ⟨_, rfl⟩
                obtain ⟨wq, hwq⟩ : ∃ w, w0 + (Q.length : Int) = w := ⟨_, rfl⟩
                have hwq2 : wq ≤ 200 := by omega
                have hnq60 : nq ≤ 60 := by omega
                rw [hwq] at hcrash hok4
                obtain ⟨z, hzz⟩ : ∃ z, pad ⟨#[122]⟩ = z := ⟨_, rfl⟩
                have hB : ∀ W, Calls Try.prog 33 #[.string ⟨#[122]⟩] W fun e w' => e = .returned (.string z) ∧ w' = W := fun W => by
                  have := blank_ok ⟨#[122]⟩ W (by decide)
                  rw [hzz] at this; exact this
                have HB := Lib.hid hB
                have HC := Lib.hid hcrash
                have HOK4 := Lib.hid hok4
                have HN := Lib.hid hN
                have HNL := Lib.hid hNl
                have HQ0 := Lib.hid hQ0
                have HNQ := Lib.hid hnq
                have HZZ := Lib.hid hzz
                obtain ⟨av, cv, rfl, -⟩ := rowSlice HXQ.out
                rw [hnq] at HXQ ⊢
                clear hcrash hok4 hN hNl hQ0 hB hzz hcr hwq hnq hQk
                go_wp2_with (first
                  | (go_at_call 30; refine HC.out.mono ?_; rintro e w2 ⟨rfl, hx2⟩; have HX2 := Lib.hid hx2; clear hx2)
                  | (go_at_call 31; refine (image_ok HX2.out HOK4.out).mono ?_; rintro e w3 ⟨now, rfl, hx3⟩; obtain ⟨an, cn, rfl, -⟩ := rowSlice hx3; unfold StrRow at hx3; rw [show (calm N [] wq b0).kept = N from rfl, HNL.out] at hx3 ⊢; have HX3 := Lib.hid hx3; clear hx3))
                go_loopw [14] (fun i wr => ∃ k3 : Nat, k3 ≤ 8 ∧ i = .int .i64 k3 ∧ Sat W wr (row 9 1 (.slice an 8 cn) 8 (sects N) :: isDisk b (calm N [] wq b0) :: row 57 2 (.slice av nq cv) nq (rwaits Q) :: row 9 1 (.slice aw 8 cw) 8 (sects K) :: [heapIs W])) (fun i _ => 8 - (intOf i).toNat)
                case atStart => exact ⟨0, by omega, rfl, by have h := HX3.out; rw [HNQ.out] at h; exact h⟩
                case round =>
                  clear HX3 HX2
                  obtain ⟨k3, hk3, rfl, hx⟩ := hrel
                  have HX := Lib.hid hx
                  clear hx
                  by_cases h8 : k3 < 8
                  · obtain ⟨nk, hnk⟩ : ∃ s, N[k3]? = some s := ⟨_, List.getElem?_eq_getElem (by rw [HNL.out]; exact h8)⟩
                    obtain ⟨wk, hwk⟩ : ∃ s, K[k3]? = some s := ⟨_, List.getElem?_eq_getElem (by rw [HKL.out]; exact h8)⟩
                    have hany := anyB_all (pick := inKeep zs) HQ0.out (by rw [HN.out]; exact hnk) hwk
                    rw [HNQ.out] at hany
                    obtain ⟨gn, xn, e, -, -, -, hsn⟩ := HX.out.rowSees (by omega)
                    cases e
                    obtain ⟨gw, xw, e, -, -, -, hsw⟩ := HX.out.p3.rowSees (by omega)
                    cases e
                    have d0 : wr.drew.cell? ⟨gn, k3, none⟩ = some (.string nk) := by
                      have := hsn k3 (.string nk) (by simp [sects, hnk])
                      rwa [Nat.zero_add] at this
                    have d1 : wr.drew.cell? ⟨gw, k3, none⟩ = some (.string wk) := by
                      have := hsw k3 (.string wk) (by simp [sects, hwk])
                      rwa [Nat.zero_add] at this
                    have hnkw : ∀ w', Sat W w' (row 9 1 (.slice (some ⟨gn, 0, none⟩) 8 cn) 8 (sects N) :: isDisk b (calm N [] wq b0) :: row 57 2 (.slice av nq cv) nq (rwaits Q) :: row 9 1 (.slice (some ⟨gw, 0, none⟩) 8 cw) 8 (sects K) :: [heapIs W]) → w'.drew.cell? ⟨gn, k3, none⟩ = some (.string nk) := fun w' h => by
                      obtain ⟨_, _, e, -, -, -, hs⟩ := h.rowSees (by omega)
                      cases e
                      have := hs k3 (.string nk) (by simp [sects, hnk])
                      rwa [Nat.zero_add] at this
                    have HNK := Lib.hid hnkw
                    clear hnkw
                    have HANY := Lib.hid hany
                    have hk8 : (k3 : Int) < 8 := by omega
                    clear hnk hwk hany hsn hsw
                    go_wp2
                    refine wp_region_planL [(0, true), (1, true), (2, true), (3, true), (4, true), (5, true), (6, true), (7, true), (8, true), (9, true)]
                      [(10, fun w1 => w1.cell? ⟨gn, k3, none⟩ = some (.string nk) ∧ w1.cell? ⟨gw, k3, none⟩ = some (.string wk))] (by kernel_rfl) (by kernel_rfl) (by intro c a d v w h; cases d <;> exact h) ?_ ?_
                    · exact ⟨⟨d0, d1⟩, trivial⟩
                    simp only [planOps, List.getElem?_cons_zero, List.getElem?_cons_succ]
                    iterate 10 (first | ((apply plan_pure rfl; (intro w1; go_simp; try go_bits); with_reducible rfl); try simp only [Act.put, List.setIfInBounds_toArray, List.set_cons_zero, List.set_cons_succ]) | ((refine' plan_load 0 rfl (by kernel_rfl) rfl ?_ ?_; rotate_left; (intro w1 hw1; go_simp; with_reducible rfl)); try simp only [Act.put, List.setIfInBounds_toArray, List.set_cons_zero, List.set_cons_succ]))
                    refine plan_nil ?_
                    go_wp2
                    go_loopw [15, 16] (fun v j wr => ∃ m : Nat, m ≤ nq ∧ j = .int .i64 m ∧ v = .bool (anyB nk wk Q k3 m) ∧ Sat W wr (row 9 1 (.slice (some ⟨gn, 0, none⟩) 8 cn) 8 (sects N) :: isDisk b (calm N [] wq b0) :: row 57 2 (.slice av nq cv) nq (rwaits Q) :: row 9 1 (.slice (some ⟨gw, 0, none⟩) 8 cw) 8 (sects K) :: [heapIs W])) (fun _ j _ => nq - (intOf j).toNat)
                    case atStart => exact ⟨0, by omega, rfl, by rw [anyB_zero], HX.out.drew⟩
                    case round =>
                      clear d0 d1
                      obtain ⟨m, hm, rfl, rfl, hx⟩ := hrel
                      by_cases hmq : m < nq
                      · obtain ⟨⟨qs, qa⟩, hq⟩ : ∃ x, Q[m]? = some x := ⟨_, List.getElem?_eq_getElem (by rw [HNQ.out]; exact hmq)⟩
                        have hq0 : 0 ≤ qa := HQ0.out _ (List.mem_of_getElem? hq)
                        obtain ⟨gv, xv, e, -, -, -, hsv⟩ := hx.p2.rowSees (by omega)
                        cases e
                        obtain ⟨w0', w1'⟩ := rwaits_get hq
                        have f1 : wr.drew.cell? ⟨gv, m * 2, none⟩ = some (.int .i64 qa) := by
                          have := hsv _ _ w0'
                          rwa [Nat.zero_add] at this
                        have f2 : wr.drew.cell? ⟨gv, m * 2 + 1, none⟩ = some (.string qs) := by
                          have := hsv _ _ w1'
                          rwa [Nat.zero_add] at this
                        have f3 : wr.drew.cell? ⟨gn, k3, none⟩ = some (.string nk) := HNK.out _ hx
                        have hs := anyB_succ (nk := nk) (wk := wk) (k := k3) hq
                        obtain ⟨bb, hbb⟩ : ∃ b, anyB nk wk Q k3 m = b := ⟨_, rfl⟩
                        rw [hbb] at hs ⊢
                        have HSU := Lib.hid hs
                        have HX5 := Lib.hid hx.drew
                        clear hs hbb hx hsv hq w0' w1'
                        cases bb
                        · by_cases hqa : qa = (k3 : Int)
                          · subst hqa
                            go_wp2
                            refine wp_region_planL [(0, true), (1, true), (2, true), (3, true), (4, true), (5, true), (6, true), (7, true), (8, true), (9, true), (10, true), (11, true), (12, true), (13, true), (14, true), (15, true), (16, true), (17, true), (18, true), (19, true), (20, true), (21, true), (22, true)]
                              [(23, fun w1 => w1.cell? ⟨gv, m * 2, none⟩ = some (.int .i64 (k3 : Int)) ∧ w1.cell? ⟨gv, m * 2 + 1, none⟩ = some (.string qs) ∧ w1.cell? ⟨gn, k3, none⟩ = some (.string nk))] (by kernel_rfl) (by kernel_rfl) (by intro c a d v w h; cases d <;> exact h) ?_ ?_
                            · exact ⟨⟨f1, f2, f3⟩, trivial⟩
                            simp only [planOps, List.getElem?_cons_zero, List.getElem?_cons_succ]
                            iterate 23 (first | ((apply plan_pure rfl; (intro w1; go_simp; try go_bits); with_reducible rfl); try simp only [Act.put, List.setIfInBounds_toArray, List.set_cons_zero, List.set_cons_succ]) | ((refine' plan_load 0 rfl (by kernel_rfl) rfl ?_ ?_; rotate_left; (intro w1 hw1; go_simp; with_reducible rfl)); try simp only [Act.put, List.setIfInBounds_toArray, List.set_cons_zero, List.set_cons_succ]))
                            refine plan_nil ?_
                            go_wp2
                            refine ⟨⟨m + 1, by omega, by go_num, ?_, HX5.out⟩, by simp [intOf]; omega⟩
                            rw [HSU.out]; simp
                          · have hb : (qa == (k3 : Int)) = false := beq_eq_false_iff_ne.2 hqa
                            go_wp2
                            refine wp_region_planL [(0, true), (1, true), (2, true), (3, true), (4, true), (5, true), (6, true), (7, true), (8, true), (9, true), (10, true), (11, true), (12, true), (13, true), (14, true), (15, true), (16, true), (17, true), (18, true), (19, true), (20, true), (21, true), (22, true)]
                              [(23, fun w1 => w1.cell? ⟨gv, m * 2, none⟩ = some (.int .i64 qa) ∧ w1.cell? ⟨gv, m * 2 + 1, none⟩ = some (.string qs) ∧ w1.cell? ⟨gn, k3, none⟩ = some (.string nk))] (by kernel_rfl) (by kernel_rfl) (by intro c a d v w h; cases d <;> exact h) ?_ ?_
                            · exact ⟨⟨f1, f2, f3⟩, trivial⟩
                            simp only [planOps, List.getElem?_cons_zero, List.getElem?_cons_succ]
                            iterate 23 (first | (apply plan_skip rfl; try simp only [Act.put, List.setIfInBounds_toArray, List.set_cons_zero, List.set_cons_succ]) | ((apply plan_pure rfl; (intro w1; go_simp; try go_bits); with_reducible rfl); try simp only [Act.put, List.setIfInBounds_toArray, List.set_cons_zero, List.set_cons_succ]) | ((refine' plan_load 0 rfl (by kernel_rfl) rfl ?_ ?_; rotate_left; (intro w1 hw1; go_simp; with_reducible rfl)); try simp only [Act.put, List.setIfInBounds_toArray, List.set_cons_zero, List.set_cons_succ]))
                            refine plan_nil ?_
                            go_wp2
                            refine ⟨⟨m + 1, by omega, by go_num, ?_, HX5.out⟩, by simp [intOf]; omega⟩
                            rw [HSU.out]; simp [hb]
                        · have hq1 := hq0
                          go_wp2
                          refine wp_region_planL [(0, true), (1, true), (2, true), (3, true), (4, true), (5, true), (6, true), (7, true), (8, true), (9, true), (10, true), (11, true), (12, true), (13, true), (14, true), (15, true), (16, true), (17, true), (18, true), (19, true), (20, true), (21, true), (22, true)]
                              [(23, fun w1 => w1.cell? ⟨gv, m * 2, none⟩ = some (.int .i64 qa) ∧ w1.cell? ⟨gv, m * 2 + 1, none⟩ = some (.string qs) ∧ w1.cell? ⟨gn, k3, none⟩ = some (.string nk))] (by kernel_rfl) (by kernel_rfl) (by intro c a d v w h; cases d <;> exact h) ?_ ?_
                          · exact ⟨⟨f1, f2, f3⟩, trivial⟩
                          simp only [planOps, List.getElem?_cons_zero, List.getElem?_cons_succ]
                          iterate 23 (first | (apply plan_skip rfl; try simp only [Act.put, List.setIfInBounds_toArray, List.set_cons_zero, List.set_cons_succ]) | ((apply plan_pure rfl; (intro w1; go_simp; try go_bits); with_reducible rfl); try simp only [Act.put, List.setIfInBounds_toArray, List.set_cons_zero, List.set_cons_succ]) | ((refine' plan_load 0 rfl (by kernel_rfl) rfl ?_ ?_; rotate_left; (intro w1 hw1; go_simp; with_reducible rfl)); try simp only [Act.put, List.setIfInBounds_toArray, List.set_cons_zero, List.set_cons_succ]))
                          refine plan_nil ?_
                          go_wp2
                          refine ⟨⟨m + 1, by omega, by go_num, ?_, HX5.out⟩, by simp [intOf]; omega⟩
                          rw [HSU.out]; rfl
                      · obtain rfl : m = nq := by omega
                        rw [HANY.out]
                        have HX5 := Lib.hid hx
                        clear hx
                        go_wp2
                        refine ⟨⟨k3 + 1, by omega, by go_num, HX5.out⟩, by simp [intOf]; omega⟩
                  · obtain rfl : k3 = 8 := by omega
                    obtain ⟨y1, y2⟩ := calm_yes (Q := []) (w := wq) (b := b0) HNL.out (i := 3) (s := ⟨#[122]⟩) (by omega) (by omega) (by decide)
                    have hokA := HOK4.out.write 3 ⟨#[122]⟩ (by show wq < _; omega) (by show 0 < _; omega)
                    rw [y2] at hokA
                    rw [HZZ.out] at y2 hokA
                    obtain ⟨y3, y4⟩ := calm_barrier (K := N) (Q := [] ++ [(z, (3 : Int))]) (w := wq + 1) (b := b0) HNL.out
                    have hokB := hokA.barrier (by show b0 < _; omega)
                    rw [y4] at hokB
                    have hn2 : keepK (fun _ => true) N ([] ++ [(z, (3 : Int))]) ([] ++ [(z, (3 : Int))]).length = N.set 3 z := rfl
                    rw [hn2] at hokB y4
                    obtain ⟨N2, hN2⟩ : ∃ N2, N.set 3 z = N2 := ⟨_, rfl⟩
                    have hN2l : N2.length = 8 := by rw [← hN2, List.length_set, HNL.out]
                    have hN23 : N2.getD (3 : Int).toNat ByteArray.empty = z := by
                      rw [← hN2]
                      show (N.set 3 z).getD 3 _ = z
                      rw [List.getD_eq_getElem?_getD, List.getElem?_set_self (by rw [HNL.out]; omega)]
                      rfl
                    rw [hN2] at hokB y4
                    have y5 : crashD (calm N2 [] (wq + 1) (b0 + 1)) [] = calm N2 [] (wq + 1) (b0 + 1) := by
                      rw [crash_calm (calm_made hN2l), keepK_none]
                      rfl
                    have hokC := hokB.crash []
                    rw [y5] at hokC
                    obtain ⟨y6, y7⟩ := calm_read (w := wq + 1) (b := b0 + 1) hN2l (i := 3) (by omega) (by omega)
                    rw [hN23] at y7
                    have Y1 := Lib.hid y1
                    have Y2 := Lib.hid y2
                    have Y3 := Lib.hid y3
                    have Y4 := Lib.hid y4
                    have Y5 := Lib.hid y5
                    have Y6 := Lib.hid y6
                    have Y7 := Lib.hid y7
                    have HOKA := Lib.hid hokA
                    have HOKB := Lib.hid hokB
                    have HOKC := Lib.hid hokC
                    clear y1 y2 y3 y4 y5 y6 y7 hokA hokB hokC hn2 hN2 hN2l hN23
                    go_wp2_with (first
                      | (go_at_call 32; refine (write_ok HX.out.p1 HOK4.out 3 ⟨#[122]⟩ (by decide)).mono ?_; rintro e w5 ⟨rfl, hx5⟩; rw [Y1.out]; rw [Y2.out] at hx5; have HX5 := Lib.hid hx5; clear hx5)
                      | (go_at_call 34; refine (barrier_ok HX5.out HOKA.out (by show b0 < _; omega)).mono ?_; rintro e w6 ⟨rfl, hx6⟩; rw [Y3.out]; rw [Y4.out] at hx6; have HX6 := Lib.hid hx6; clear hx6)
                      | (go_at_call 30; refine (crash_ok (a := none) (c := 0) (zs := []) HX6.out HOKB.out (fun W' _ => SeesI.none) (by show 0 ≤ _; omega)).mono ?_; rintro e w7 ⟨rfl, hx7⟩; rw [Y5.out] at hx7; have HX7 := Lib.hid hx7; clear hx7)
                      | (go_at_call 35; go_loud (refine (read_yes HX7.out HOKC.out 3 Y6.out).mono ?_; rintro e w8 ⟨rfl, hx8⟩; rw [Y7.out]; have HX8 := Lib.hid hx8; clear hx8))
                      | (go_at_call 33; refine (HB.out _).mono ?_; rintro e w9 ⟨rfl, rfl⟩)
                      | (go_at_call 27; refine (knownD_ok _).mono ?_; rintro e w9 ⟨rfl, hb⟩))
                    go_ret
                    exact ⟨rfl, diskNil_known HX8.out.p4 hb⟩
    · go_enter Try.func6, Try.ntmps6
      go_wp2_with (first | (go_at_call 26; with_reducible refine HL.out.mono ?_; rintro e w2 ⟨rfl, hw⟩; subst w2) | (go_at_call 26; with_reducible refine HL2.out.mono ?_; rintro e w2 ⟨rfl, hw⟩; subst w2) | (go_at_call 27; refine (knownD_ok _).mono ?_; rintro e w2 ⟨rfl, hb⟩))
      go_ret
      exact ⟨rfl, hb⟩
  · go_enter Try.func6, Try.ntmps6
    go_wp2_with (first | (go_at_call 26; with_reducible refine HL.out.mono ?_; rintro e w2 ⟨rfl, hw⟩; subst w2) | (go_at_call 27; refine (knownD_ok _).mono ?_; rintro e w2 ⟨rfl, hb⟩))
    go_ret
    exact ⟨rfl, hb⟩
end Go.Proofs.Ytmkpglabiikdeaa
