/-
  posthouse/disk.Disk.Barrier and Crash.
-/
import Derived.Test.YtmkpglabiikdeaaGreatDoorDiskK
namespace Go.Proofs.YtmkpglabiikdeaaGreatDoor
open Go.RowKit PH

theorem barrier1_ok (k : Nat) (W : World) : Calls Tryz.prog 63 #[.int .i64 k] W fun e w' => e = .returned (.bool true) ∧ w' = W := by
  go_enter Tryz.func63, Tryz.ntmps63
  go_wp2
  go_ret
  exact ⟨rfl, rfl⟩

theorem OkD.burn {D : Dk} (ok : OkD D) : OkD (burnD D) := by
  obtain ⟨h1, h2, h3, h4⟩ := burnD_same D
  refine ⟨?_, ?_, by rw [h3]; exact ok.w0, by rw [h3]; exact ok.w1, by rw [h4]; exact ok.b0, by rw [h4]; exact ok.b1, by rw [h2]; exact ok.wl, by rw [h1]; exact ok.kl, by rw [h1, h2]; exact ok.wk⟩
  · have := ok.f0; unfold burnD; split <;> dsimp only <;> omega
  · have := ok.f1; unfold burnD; split <;> dsimp only <;> omega

def barrierE (D : Dk) : Int := if aliveE D = 0 then burnE D else aliveE D
def barredD (D : Dk) : Dk := { burnD D with barriers := (burnD D).barriers + 1 }
def barrierD (D : Dk) : Dk := if aliveE D = 0 then (if D.fuse = 0 then burnD D else keepD (barredD D) (fun _ => true)) else D

set_option maxHeartbeats 400000 in
theorem barrier_ok {E W : World} {L : List HP} {b : Nat} {D : Dk} (x : Sat E W (isDisk b D :: L)) (ok : OkD D) (hb1 : D.barriers < 1000000) :
    Calls Tryz.prog 25 #[.pointer (some ⟨b, 0, none⟩)] W fun e w' => e = .returned (.int .i64 (barrierE D)) ∧ Sat E w' (isDisk b (barrierD D) :: L) := by
  have HX := Lib.hid x
  have HOK := Lib.hid ok
  clear x ok
  obtain ⟨t, ht⟩ : ∃ t, aliveE D = t := ⟨_, rfl⟩
  have HT := Lib.hid ht
  clear ht
  by_cases h0 : t = 0
  · subst h0
    by_cases h2 : D.fuse = 0
    · have hbe : burnE D = 30 := by unfold burnE; rw [if_pos h2]
      have HBE := Lib.hid hbe
      have H2 := Lib.hid h2
      clear hbe h2
      go_enter Tryz.func25, Tryz.ntmps25
      go_wp2_with (first
        | (go_at_call 59; refine (alive_ok HX.out).mono ?_; rintro e w2 ⟨rfl, rfl⟩; rw [HT.out])
        | (go_at_call 60; refine (burn_ok HX.out HOK.out.f0 HOK.out.f1).mono ?_; rintro e w3 ⟨rfl, hx3⟩; rw [HBE.out]))
      go_ret
      exact ⟨retI (by unfold barrierE; rw [HT.out, if_pos rfl, HBE.out]), by unfold barrierD; rw [if_pos HT.out, if_pos H2.out]; exact hx3⟩
    · have hbe : burnE D = 0 := by unfold burnE; rw [if_neg h2]
      have HBE := Lib.hid hbe
      have H2 := Lib.hid h2
      clear hbe h2
      have hok2 : OkD (barredD D) := by
        have h := HOK.out.burn
        have e := (burnD_same D).2.2.2
        exact ⟨h.f0, h.f1, h.w0, h.w1, by have := h.b0; show 0 ≤ (burnD D).barriers + 1; omega, by show (burnD D).barriers + 1 ≤ _; rw [e]; omega, h.wl, h.kl, h.wk⟩
      have HOK2 := Lib.hid hok2
      clear hok2
      go_enter Tryz.func25, Tryz.ntmps25
      go_wp2_with (first
        | (go_at_call 59; refine (alive_ok HX.out).mono ?_; rintro e w2 ⟨rfl, rfl⟩; rw [HT.out])
        | (go_at_call 60; refine (burn_ok HX.out HOK.out.f0 HOK.out.f1).mono ?_; rintro e w3 ⟨rfl, hx3⟩; rw [HBE.out]; obtain ⟨ak, ck, aw, cw, hx4, -, hcw⟩ := disk_open hx3; obtain ⟨-, -, -, -, -, c5, f⟩ := disk_cells hx4; have f5 := f 5; clear f hx3; have HX4 := Lib.hid hx4; clear hx4)
        | (go_at_call 61; refine (add_ok c5 f5 HOK.out.burn.b0 (by have := HOK.out.burn.b1; omega)).mono ?_; rintro e w5 ⟨rfl, rfl⟩)
        | (go_at_call 62; refine (keep_all (D := barredD D) (disk_close (HX4.out.setCell 5 (.int .i64 ((burnD D).barriers + 1)))) HOK2.out (fun _ => true) (fun k W' _ _ => barrier1_ok k W')).mono ?_; rintro e w6 ⟨rfl, hx6⟩))
      go_ret
      exact ⟨retI (by unfold barrierE; rw [HT.out, if_pos rfl, HBE.out]), by unfold barrierD; rw [if_pos HT.out, if_neg H2.out]; exact hx6⟩
  · have hb : (t != 0) = true := by simp [h0]
    go_enter Tryz.func25, Tryz.ntmps25
    go_wp2_with (go_at_call 59; refine (alive_ok HX.out).mono ?_; rintro e w2 ⟨rfl, rfl⟩; rw [HT.out])
    go_ret
    exact ⟨retI (by unfold barrierE; rw [HT.out, if_neg h0]), by unfold barrierD; rw [if_neg (by rw [HT.out]; exact h0)]; exact HX.out⟩

/-- 'picked': is write k kept? -/
def inKeep (zs : List Int) (k : Nat) : Bool := zs.contains (k : Int)
/-- A slice of integers, as a reader sees it. -/
def SeesI (W : World) (a : Option Addr) (zs : List Int) : Prop := ∀ (j : Nat) (u : Int), zs[j]? = some u → ∃ b off, a = some ⟨b, off, none⟩ ∧ W.cell? ⟨b, off + j, none⟩ = some (.int .i64 u)

theorem contains_ok {W : World} {a : Option Addr} {c : Nat} {zs : List Int} (h : SeesI W a zs) (hl : zs.length ≤ 9223372036854775807) (x : Int) :
    Calls Tryz.prog 68 #[.slice a zs.length c, .int .i64 x] W fun e w' => e = .returned (.bool (zs.contains x)) ∧ w' = W := by
  by_cases h0 : zs.length = 0
  · have hz : zs = [] := List.eq_nil_of_length_eq_zero h0
    subst hz
    exact Tryz.slices_Contains_int_empty a c x W
  · obtain ⟨b, off, rfl, -⟩ := h 0 zs[0] (List.getElem?_eq_getElem (by omega))
    have := Tryz.slices_Contains_int b off zs.length c zs x W (Nat.le_refl _) hl (fun j hj => by
      obtain ⟨b', off', e, hc⟩ := h j zs[j] (List.getElem?_eq_getElem hj)
      cases e
      rw [hc]; simp [List.getD, List.getElem?_eq_getElem hj])
    rwa [List.take_length] at this

theorem crash1_ok {W : World} {a : Option Addr} {c q : Nat} {zs : List Int} (hq : W.cell? ⟨q, 0, none⟩ = some (.slice a zs.length c)) (h : SeesI W a zs) (hl : zs.length ≤ 9223372036854775807) (k : Nat) :
    Calls Tryz.prog 67 #[.int .i64 k, .pointer (some ⟨q, 0, none⟩)] W fun e w' => e = .returned (.bool (inKeep zs k)) ∧ w' = W := by
  have HC := Lib.hid (contains_ok (c := c) h hl (k : Int))
  go_enter Tryz.func67, Tryz.ntmps67
  go_wp2_with (go_at_call 68; refine HC.out.mono ?_; rintro e w2 ⟨rfl, rfl⟩)
  go_ret
  exact ⟨retB (by simp [inKeep]), rfl⟩

def crashE (D : Dk) : Int := if madeB D then 0 else 1
def crashD (D : Dk) (zs : List Int) : Dk := if madeB D then { keepD D (inKeep zs) with fuse := -1, dead := false } else D

set_option maxHeartbeats 400000 in
theorem crash_ok {E W : World} {L : List HP} {b : Nat} {D : Dk} {a : Option Addr} {c : Nat} {zs : List Int} (x : Sat E W (isDisk b D :: L)) (ok : OkD D) (h : ∀ W', Sat E W' L → SeesI W' a zs) (hl : zs.length ≤ 9223372036854775807) :
    Calls Tryz.prog 29 #[.pointer (some ⟨b, 0, none⟩), .slice a zs.length c] W fun e w' => e = .returned (.int .i64 (crashE D)) ∧ Sat E w' (isDisk b (crashD D zs) :: L) := by
  have HX := Lib.hid (x.alloc (.cells #[.slice a zs.length c] 55))
  have HOK := Lib.hid ok
  have HH := Lib.hid h
  clear x ok h
  obtain ⟨t, ht⟩ : ∃ t, madeB D = t := ⟨_, rfl⟩
  have HT := Lib.hid ht
  clear ht
  cases t
  · go_enter Tryz.func29, Tryz.ntmps29
    go_wp2_with (go_at_call 66; refine (made_ok HX.out.p1).mono ?_; rintro e w2 ⟨rfl, rfl⟩; rw [HT.out])
    go_ret
    exact ⟨retI (by unfold crashE; rw [HT.out]; rfl), by unfold crashD; rw [HT.out]; exact HX.out.tail⟩
  · go_enter Tryz.func29, Tryz.ntmps29
    go_wp2_with (first
      | (go_at_call 66; refine (made_ok HX.out.p1).mono ?_; rintro e w2 ⟨rfl, rfl⟩; rw [HT.out])
      | (go_at_call 62; refine (keep_some HX.out.p1 HOK.out W.heap.size (inKeep zs) (fun k W' hW _ => crash1_ok (cell_blk hW.at 0) (HH.out W' hW.tail) hl k)).mono ?_; rintro e w3 ⟨rfl, hx3⟩; obtain ⟨ak, ck, aw, cw, hx4, -, -⟩ := disk_open hx3; obtain ⟨-, -, c2, c3, -, -, f⟩ := disk_cells hx4; have f2 := f 2; have f3 := f 3; clear f hx3; have HX4 := Lib.hid hx4; clear hx4))
    go_ret
    refine ⟨retI (by unfold crashE; rw [HT.out]; rfl), ?_⟩
    unfold crashD
    rw [HT.out, if_pos rfl]
    exact (disk_close ((HX4.out.setCell 2 (.int .i64 (-1))).setCell 3 (.bool false))).p1.tail
end Go.Proofs.YtmkpglabiikdeaaGreatDoor

