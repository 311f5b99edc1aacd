/-
  Layer 10's document: Read, Barrier, Crash and Do of the reference disk, walked.
-/
import Derived.Test.YtmkpglabiikdeaaGreatDoorRefW
namespace Go.Proofs.YtmkpglabiikdeaaGreatDoor
open Go.RowKit PH

set_option maxRecDepth 100000 in
set_option maxHeartbeats 800000 in
theorem refread_ok {E W : World} {L : List HP} {b : Nat} {D : Dk} (x : Sat E W (isRef b D :: L)) (hm : madeB D = true) (ok : OkD D) (i : Int) :
    Calls Tryz.prog 70 #[.pointer (some ⟨b, 0, none⟩), .int .i64 i] W fun e w' => e = .returned (.tuple #[.string (readS D i), .int .i64 (thereE D i)]) ∧ Sat E w' (isRef b D :: L) := by
  have hme := madeE hm i
  have HS := Lib.hid x
  have HOK := Lib.hid ok
  obtain ⟨ak, ck, aw, cw, hx, -, -⟩ := ref_open x
  obtain ⟨c0, c1, -, c3, -, -, -⟩ := ref_cells hx
  clear x ok
  have HX := Lib.hid hx
  clear hx
  obtain ⟨dd, hd⟩ : ∃ dd, D.dead = dd := ⟨_, rfl⟩
  rw [hd] at c3 hme
  obtain ⟨n, hn⟩ : ∃ n, D.kept.length = n := ⟨_, rfl⟩
  rw [hn] at c0 hme
  clear hd
  have HN := Lib.hid hn
  clear hn
  cases dd
  · by_cases hi : i < 0
    · have he : thereE D i = 3 := by rw [hme]; simp [hi]
      have HE := Lib.hid he
      clear he hme
      go_enter Tryz.func70, Tryz.ntmps70
      go_wp2
      go_ret2
      exact ⟨retS2 (by unfold readS; rw [HE.out, if_neg (by decide)]; rfl) HE.out.symm, HS.out⟩
    · by_cases hi2 : (n : Int) ≤ i
      · have he : thereE D i = 3 := by rw [hme]; simp [hi2]
        have HE := Lib.hid he
        clear he hme
        go_enter Tryz.func70, Tryz.ntmps70
        go_wp2
        go_ret2
        exact ⟨retS2 (by unfold readS; rw [HE.out, if_neg (by decide)]; rfl) HE.out.symm, HS.out⟩
      · have he : thereE D i = 0 := by rw [hme]; simp [hi, hi2]
        have HE := Lib.hid he
        clear he hme
        obtain ⟨p, rfl⟩ : ∃ p : Nat, i = p := ⟨i.toNat, by omega⟩
        obtain ⟨m, hm⟩ : ∃ m, D.wait.length = m := ⟨_, rfl⟩
        rw [hm] at c1
        have HM := Lib.hid hm
        have hml : m ≤ 1000000 := by rw [← hm]; exact HOK.out.wl
        clear hm
        obtain ⟨s0, hs0⟩ : ∃ s, D.kept[p]? = some s := ⟨_, List.getElem?_eq_getElem (by rw [HN.out]; omega)⟩
        obtain ⟨g, cap, e, -, -, -, hsee⟩ := HX.out.p1.rowSees (by rw [HN.out]; omega)
        rw [HN.out] at e
        cases e
        have d0 := hsee p (.string s0) (by simp [sects, hs0])
        rw [Nat.zero_add] at d0
        have HS0 := Lib.hid hs0
        clear hs0 hsee
        have hpn : p < n := by omega
        go_enter Tryz.func70, Tryz.ntmps70
        go_wp2
        go_loop [6, 7] (fun s k => ∃ j : Nat, j ≤ m ∧ k = .int .i64 j ∧ s = .string (readF D p j)) (fun _ k => m - (intOf k).toNat)
        case atStart => exact ⟨0, by omega, rfl, by rw [readF_zero]; simp [List.getD, HS0.out]⟩
        case round =>
          obtain ⟨j, hj, rfl, rfl⟩ := hrel
          by_cases hlt : j < m
          · obtain ⟨⟨s, at_⟩, hw⟩ : ∃ x, D.wait[j]? = some x := ⟨_, List.getElem?_eq_getElem (by rw [HM.out]; exact hlt)⟩
            obtain ⟨gw, capw, e, -, -, -, hsee⟩ := HX.out.p2.rowSees (by rw [HM.out]; omega)
            rw [HM.out] at e
            cases e
            obtain ⟨w0, w1⟩ := rwaits_get hw
            have d1 := hsee _ _ w0
            have d2 := hsee _ _ w1
            rw [Nat.zero_add] at d1 d2
            have HW := Lib.hid hw
            clear hsee hw w0 w1
            by_cases he : at_ = (p : Int)
            · subst he
              go_wp2
              go_round
              case rel => exact ⟨j + 1, by omega, by go_num, by rw [readF_yes HW.out rfl]⟩
              case measure => simp [intOf]; omega
            · have hb : (at_ == (p : Int)) = false := beq_eq_false_iff_ne.2 he
              go_wp2
              go_round
              case rel => exact ⟨j + 1, by omega, by go_num, by rw [readF_no HW.out he]⟩
              case measure => simp [intOf]; omega
          · obtain rfl : j = m := by omega
            go_wp2
            go_ret2
            exact ⟨retS2 (by unfold readS; rw [HE.out, if_pos rfl, ← readF_all, HM.out]) HE.out.symm, HS.out⟩
  · have he : thereE D i = 30 := by rw [hme]; rfl
    have HE := Lib.hid he
    clear he hme
    go_enter Tryz.func70, Tryz.ntmps70
    go_wp2
    go_ret2
    exact ⟨retS2 (by unfold readS; rw [HE.out, if_neg (by decide)]; rfl) HE.out.symm, HS.out⟩

/-- The document's disk, opened, with kept sectors of its own. -/
def refO (b : Nat) (D : Dk) (kl n ck cw : Nat) (ak aw : Option Addr) (kept : List ByteArray) (wait : List (ByteArray × Int)) (L : List HP) : List HP :=
  pt b (refObj (.slice ak kl ck) (.slice aw n cw) D) :: row 9 1 (.slice ak kl ck) kl (sects kept) :: row 120 2 (.slice aw n cw) n (rwaits wait) :: L

set_option maxRecDepth 100000 in
set_option maxHeartbeats 1600000 in
theorem refbarrier_ok {E W : World} {L : List HP} {b : Nat} {D : Dk} (x : Sat E W (isRef b D :: L)) (hm : madeB D = true) (ok : OkD D) (hb1 : D.barriers < 1000000) :
    Calls Tryz.prog 34 #[.pointer (some ⟨b, 0, none⟩)] W fun e w' => e = .returned (.int .i64 (barrierE D)) ∧ Sat E w' (isRef b (barrierD D) :: L) := by
  have hme : aliveE D = if D.dead then 30 else 0 := by unfold aliveE; rw [hm]; rfl
  have HS := Lib.hid x
  have HOK := Lib.hid ok
  obtain ⟨ak, ck, aw, cw, hx, -, -⟩ := ref_open x
  obtain ⟨-, -, -, c3, -, -, -⟩ := ref_cells hx
  clear x ok hx
  obtain ⟨dd, hd⟩ : ∃ dd, D.dead = dd := ⟨_, rfl⟩
  rw [hd] at c3 hme
  clear hd
  have HME := Lib.hid hme
  clear hme
  cases dd
  · by_cases h2 : D.fuse = 0
    · have H2 := Lib.hid h2
      have hd : decide (D.fuse = 0) = true := by simp [h2]
      have HD := Lib.hid hd
      clear h2 hd
      go_enter Tryz.func34, Tryz.ntmps34
      go_wp2_with (go_at_call 74; refine (refburn_ok HS.out HOK.out.f0 HOK.out.f1).mono ?_; rintro e w3 ⟨rfl, hx3⟩; rw [HD.out])
      go_ret
      exact ⟨retI (by unfold barrierE burnE; rw [HME.out, if_pos H2.out]; rfl), by unfold barrierD; rw [HME.out, if_pos H2.out]; exact hx3⟩
    · have H2 := Lib.hid h2
      have hd : decide (D.fuse = 0) = false := by simp [h2]
      have HD := Lib.hid hd
      clear h2 hd
      obtain ⟨D2, hD2⟩ : ∃ D2, burnD D = D2 := ⟨_, rfl⟩
      have ok2 : OkD D2 := hD2 ▸ HOK.out.burn
      have HOK2 := Lib.hid ok2
      have hb2 : D2.barriers < 1000000 := by rw [← hD2, (burnD_same D).2.2.2]; exact hb1
      have hb0 := ok2.b0
      obtain ⟨n, hn⟩ : ∃ n, D2.wait.length = n := ⟨_, rfl⟩
      obtain ⟨kl, hkl⟩ : ∃ n, D2.kept.length = n := ⟨_, rfl⟩
      have hn6 : n ≤ 1000000 := by rw [← hn]; exact ok2.wl
      have HD2 := Lib.hid hD2
      have HN := Lib.hid hn
      have HKL := Lib.hid hkl
      clear hD2 ok2 hn hkl
      obtain ⟨D3, hD3⟩ : ∃ D3, barredD D = D3 := ⟨_, rfl⟩
      have HD3 := Lib.hid hD3
      have hw3 : D3.wait = D2.wait := by rw [← hD3, ← HD2.out]; rfl
      have hk3 : D3.kept = D2.kept := by rw [← hD3, ← HD2.out]; rfl
      have HW3 := Lib.hid hw3
      have HK3 := Lib.hid hk3
      clear hD3 hw3 hk3
      go_enter Tryz.func34, Tryz.ntmps34
      go_wp2_with (go_at_call 74; refine (refburn_ok HS.out HOK.out.f0 HOK.out.f1).mono ?_; rintro e w3 ⟨rfl, hx3⟩; rw [HD.out]; rw [HD2.out] at hx3; obtain ⟨ak3, ck3, aw3, cw3, hx4, -, -⟩ := ref_open hx3; have c5 := (ref_cells hx4).2.2.2.2.2.1; have f5 := (ref_cells hx4).2.2.2.2.2.2 5; rw [HN.out, HKL.out] at hx4; have HX4 := Lib.hid hx4; clear hx3 hx4)
      have hx5 : Sat E (w3.setCell ⟨b, 5, none⟩ (.int .i64 (D2.barriers + 1))) (refO b D3 kl n ck3 cw3 ak3 aw3 (keepK (fun _ => true) D2.kept D2.wait 0) D2.wait L) := by
        have h := HX4.out.setCell 5 (.int .i64 (D2.barriers + 1))
        unfold refO
        rw [← HD3.out]
        unfold barredD
        rw [HD2.out]
        exact h
      have HX5 := Lib.hid hx5
      clear c5 f5 hx5 c3
      go_loopw [3] (fun i wr => ∃ k : Nat, k ≤ n ∧ i = .int .i64 k ∧ Sat E wr (refO b D3 kl n ck3 cw3 ak3 aw3 (keepK (fun _ => true) D2.kept D2.wait k) D2.wait L)) (fun i _ => n - (intOf i).toNat)
      case atStart => exact ⟨0, by omega, rfl, HX5.out⟩
      case round =>
        obtain ⟨k, hk, rfl, hx⟩ := hrel
        unfold refO at hx
        have c1 := (ref_cells hx).2.1
        by_cases hlt : k < n
        · obtain ⟨⟨s, at_⟩, hw⟩ : ∃ x, D2.wait[k]? = some x := ⟨_, List.getElem?_eq_getElem (by rw [HN.out]; exact hlt)⟩
          obtain ⟨hat0, hat1⟩ := HOK2.out.wk _ (List.mem_of_getElem? hw)
          obtain ⟨at', rfl⟩ : ∃ a : Nat, at_ = a := ⟨at_.toNat, by dsimp only at hat0; omega⟩
          have hat2 : at' < kl := by rw [← HKL.out]; dsimp only at hat1; omega
          obtain ⟨gw, capw, e, -, -, -, hsee⟩ := hx.p2.rowSees (by omega)
          cases e
          obtain ⟨gk, capk, e, -, -, -, -⟩ := hx.p1.rowSees (by omega)
          cases e
          obtain ⟨w0, w1⟩ := rwaits_get hw
          have d1 := hsee _ _ w0
          have d2 := hsee _ _ w1
          rw [Nat.zero_add] at d1 d2
          have c0 := (ref_cells hx).1
          have HXR := Lib.hid hx
          have HW := Lib.hid hw
          clear hsee hw w0 w1 hx hat0 hat1
          go_wp2
          refine wp_region_planL [(0, true), (1, true), (2, true), (3, true), (4, true), (5, true), (6, true), (7, true), (8, true), (9, true), (10, true), (11, true), (12, true), (13, true), (14, true), (15, true), (16, true), (17, true), (18, true), (19, true), (20, true), (21, false)]
            [(21, fun w1 => w1.cell? ⟨b, 0, none⟩ = some (.slice (some ⟨gk, 0, none⟩) kl ck3) ∧ w1.cell? ⟨b, 1, none⟩ = some (.slice (some ⟨gw, 0, none⟩) n cw3) ∧ w1.cell? ⟨gw, k * 2, none⟩ = some (.int .i64 at') ∧ w1.cell? ⟨gw, k * 2 + 1, none⟩ = some (.string s))] (by kernel_rfl) (by kernel_rfl) (by intro c a d v w h; cases d <;> exact h) ?_ ?_
          · exact ⟨⟨c0, c1, d1, d2⟩, trivial⟩
          simp only [planOps, List.getElem?_cons_zero, List.getElem?_cons_succ]
          iterate 21 (first | ((apply plan_pure rfl; (intro w1; go_simp; try go_bits); with_reducible rfl); try simp only [Act.put, List.setIfInBounds_toArray, List.set_cons_zero, List.set_cons_succ]) | ((refine' plan_load 0 rfl (by kernel_rfl) rfl ?_ ?_; rotate_left; (intro w1 hw1; go_simp; with_reducible rfl)); try simp only [Act.put, List.setIfInBounds_toArray, List.set_cons_zero, List.set_cons_succ]))
          have hxb := HXR.out.drew.p1
          have hcell : wr.drew.cell? ⟨gk, at', none⟩ = some (.string ((keepK (fun _ => true) D2.kept D2.wait k)[at']'(by rw [keepK_len, HKL.out]; exact hat2))) := by
            obtain ⟨_, _, e, -, -, -, hseek⟩ := hxb.rowSees (by omega)
            cases e
            have := hseek at' _ (by simp [sects, List.getElem?_eq_getElem (show at' < (keepK (fun _ => true) D2.kept D2.wait k).length by rw [keepK_len, HKL.out]; exact hat2)]; rfl)
            rwa [Nat.zero_add] at this
          have hfree := hxb.rowFree at'
          refine plan_loud rfl (fun K hK => ?_); go_simp
          refine hK _ _ trivial (plan_nil ?_)
          clear hK K
          go_wp2
          refine ⟨⟨k + 1, by omega, by go_num, ?_⟩, by simp [intOf]; omega⟩
          rw [keepK_yes HW.out rfl]
          have hxc := (hxb.rowSet (i := at') (.string s)).p1
          unfold refO
          rw [show sects ((keepK (fun _ => true) D2.kept D2.wait k).set ((at' : Int).toNat) s) = (sects (keepK (fun _ => true) D2.kept D2.wait k)).set at' (.string s) by simp [sects, List.map_set]]
          exact hxc
        · obtain rfl : k = n := by omega
          have f1 := (ref_cells hx).2.2.2.2.2.2 1
          have HXR := Lib.hid hx
          clear hx
          go_wp2
          go_ret
          refine ⟨retI (by unfold barrierE burnE; rw [HME.out, if_neg H2.out]; rfl), ?_⟩
          have hxc := ((HXR.out.setCell 1 (.slice none 0 0)).p2.tail.rowNil 120 2).p2.p2
          unfold barrierD
          rw [if_pos (show aliveE D = 0 from HME.out), if_neg H2.out]
          refine ref_close (vk := .slice ak3 kl ck3) (vw := .slice none 0 0) ?_
          rw [HD3.out]
          unfold keepD
          rw [HW3.out, HK3.out, HN.out]
          dsimp only
          rw [keepK_len, HKL.out]
          exact hxc
  · go_enter Tryz.func34, Tryz.ntmps34
    go_wp2
    go_ret
    exact ⟨retI (by unfold barrierE; rw [HME.out]; rfl), by unfold barrierD; rw [HME.out]; exact HS.out⟩
theorem crashD_ref {D : Dk} (hm : madeB D = true) (zs : List Int) : crashD D zs = { keepD D (inKeep zs) with fuse := -1, dead := false } := by unfold crashD; rw [hm]; rfl

set_option maxRecDepth 100000 in
set_option maxHeartbeats 1600000 in
theorem refcrash_ok {E W : World} {L : List HP} {b : Nat} {D : Dk} {a : Option Addr} {c : Nat} {zs : List Int} (x : Sat E W (isRef b D :: L)) (hm : madeB D = true) (ok : OkD D) (h : ∀ W', Sat E W' L → SeesI W' a zs) (hl : zs.length ≤ 9223372036854775807) :
    Calls Tryz.prog 35 #[.pointer (some ⟨b, 0, none⟩), .slice a zs.length c] W fun e w' => e = .returned (.tuple #[]) ∧ Sat E w' (isRef b (crashD D zs) :: L) := by
  rw [crashD_ref hm]
  have HOK := Lib.hid ok
  have HH := Lib.hid h
  obtain ⟨ak, ck, aw, cw, hx, -, -⟩ := ref_open x
  obtain ⟨n, hn⟩ : ∃ n, D.wait.length = n := ⟨_, rfl⟩
  obtain ⟨kl, hkl⟩ : ∃ n, D.kept.length = n := ⟨_, rfl⟩
  have hn6 : n ≤ 1000000 := by rw [← hn]; exact ok.wl
  have HN := Lib.hid hn
  have HKL := Lib.hid hkl
  rw [hn, hkl] at hx
  clear x ok h hn hkl hm
  have hx5 : Sat E W (refO b D kl n ck cw ak aw (keepK (inKeep zs) D.kept D.wait 0) D.wait L) := hx
  have HX5 := Lib.hid hx5
  clear hx hx5
  obtain ⟨zl, hzl⟩ : ∃ n, zs.length = n := ⟨_, rfl⟩
  have HZL := Lib.hid hzl
  rw [hzl] at hl ⊢
  clear hzl
  go_enter Tryz.func35, Tryz.ntmps35
  go_wp2
  go_loopw [4] (fun i wr => ∃ k : Nat, k ≤ n ∧ i = .int .i64 k ∧ Sat E wr (refO b D kl n ck cw ak aw (keepK (inKeep zs) D.kept D.wait k) D.wait L)) (fun i _ => n - (intOf i).toNat)
  case atStart => exact ⟨0, by omega, rfl, HX5.out⟩
  case round =>
    obtain ⟨k, hk, rfl, hx⟩ := hrel
    unfold refO at hx
    have c1 := (ref_cells hx).2.1
    by_cases hlt : k < n
    · obtain ⟨⟨s, at_⟩, hw⟩ : ∃ x, D.wait[k]? = some x := ⟨_, List.getElem?_eq_getElem (by rw [HN.out]; exact hlt)⟩
      obtain ⟨hat0, hat1⟩ := HOK.out.wk _ (List.mem_of_getElem? hw)
      obtain ⟨at', rfl⟩ : ∃ a : Nat, at_ = a := ⟨at_.toNat, by dsimp only at hat0; omega⟩
      have hat2 : at' < kl := by rw [← HKL.out]; dsimp only at hat1; omega
      have HXR := Lib.hid hx
      have HW := Lib.hid hw
      clear hw hx hat0 hat1
      go_wp2
      obtain ⟨KK, hKK⟩ : ∃ KK, keepK (inKeep zs) D.kept D.wait k = KK := ⟨_, rfl⟩
      have hkk : KK.length = kl := by rw [← hKK, keepK_len, HKL.out]
      have HKK := Lib.hid hKK
      have HKKL := Lib.hid hkk
      clear hKK hkk
      go_loopw [5] (fun j wr => ∃ m : Nat, m ≤ zl ∧ j = .int .i64 m ∧ Sat E wr (refO b D kl n ck cw ak aw (keepJ KK (s, (at' : Int)) zs k m) D.wait L)) (fun j _ => zl - (intOf j).toNat)
      case atStart => exact ⟨0, by omega, rfl, by rw [keepJ_zero, ← HKK.out]; exact HXR.out⟩
      case round =>
        clear c1
        obtain ⟨m, hm, rfl, hx⟩ := hrel
        unfold refO at hx
        by_cases hlm : m < zl
        · obtain ⟨z, hz⟩ : ∃ z, zs[m]? = some z := ⟨_, List.getElem?_eq_getElem (by rw [HZL.out]; exact hlm)⟩
          obtain ⟨bz, oz, rfl, cz⟩ := HH.out wr hx.tail.tail.tail m z hz
          have HZ := Lib.hid hz
          clear hz
          by_cases he : z = (k : Int)
          · subst he
            obtain ⟨gw, capw, e, -, -, -, hsee⟩ := hx.p2.rowSees (by omega)
            cases e
            obtain ⟨gk, capk, e, -, -, -, -⟩ := hx.p1.rowSees (by omega)
            cases e
            obtain ⟨w0, w1⟩ := rwaits_get HW.out
            have d1 := hsee _ _ w0
            have d2 := hsee _ _ w1
            rw [Nat.zero_add] at d1 d2
            have c0 := (ref_cells hx).1
            have c1 := (ref_cells hx).2.1
            have HXR := Lib.hid hx
            clear hsee w0 w1 hx
            go_wp2
            refine wp_region_planL [(0, true), (1, true), (2, true), (3, true), (4, true), (5, true), (6, true), (7, true), (8, true), (9, true), (10, true), (11, true), (12, true), (13, true), (14, true), (15, true), (16, true), (17, true), (18, true), (19, true), (20, true), (21, false)]
              [(21, fun w1 => w1.cell? ⟨b, 0, none⟩ = some (.slice (some ⟨gk, 0, none⟩) kl ck) ∧ w1.cell? ⟨b, 1, none⟩ = some (.slice (some ⟨gw, 0, none⟩) n cw) ∧ w1.cell? ⟨gw, k * 2, none⟩ = some (.int .i64 at') ∧ w1.cell? ⟨gw, k * 2 + 1, none⟩ = some (.string s))] (by kernel_rfl) (by kernel_rfl) (by intro c a d v w h; cases d <;> exact h) ?_ ?_
            · exact ⟨⟨c0, c1, d1, d2⟩, trivial⟩
            simp only [planOps, List.getElem?_cons_zero, List.getElem?_cons_succ]
            iterate 21 (first | ((apply plan_pure rfl; (intro w1; go_simp; try go_bits); with_reducible rfl); try simp only [Act.put, List.setIfInBounds_toArray, List.set_cons_zero, List.set_cons_succ]) | ((refine' plan_load 0 rfl (by kernel_rfl) rfl ?_ ?_; rotate_left; (intro w1 hw1; go_simp; with_reducible rfl)); try simp only [Act.put, List.setIfInBounds_toArray, List.set_cons_zero, List.set_cons_succ]))
            have hxb := HXR.out.drew.p1
            have hcell : wr.drew.cell? ⟨gk, at', none⟩ = some (.string ((keepJ KK (s, (at' : Int)) zs k m)[at']'(by rw [keepJ_len, HKKL.out]; exact hat2))) := by
              obtain ⟨_, _, e, -, -, -, hseek⟩ := hxb.rowSees (by omega)
              cases e
              have := hseek at' _ (by simp [sects, List.getElem?_eq_getElem (show at' < (keepJ KK (s, (at' : Int)) zs k m).length by rw [keepJ_len, HKKL.out]; exact hat2)]; rfl)
              rwa [Nat.zero_add] at this
            have hfree := hxb.rowFree at'
            refine plan_loud rfl (fun K hK => ?_); go_simp
            refine hK _ _ trivial (plan_nil ?_)
            clear hK K
            go_wp2
            refine ⟨⟨m + 1, by omega, by go_num, ?_⟩, by simp [intOf]; omega⟩
            rw [keepJ_yes HZ.out]
            have hxc := (hxb.rowSet (i := at') (.string s)).p1
            unfold refO
            rw [show sects ((keepJ KK (s, (at' : Int)) zs k m).set ((at' : Int).toNat) s) = (sects (keepJ KK (s, (at' : Int)) zs k m)).set at' (.string s) by simp [sects, List.map_set]]
            exact hxc
          · have hb : (z == (k : Int)) = false := beq_eq_false_iff_ne.2 he
            have HXR := Lib.hid hx
            clear hx
            go_wp2
            refine ⟨⟨m + 1, by omega, by go_num, ?_⟩, by simp [intOf]; omega⟩
            rw [keepJ_no HZ.out he]
            exact HXR.out
        · obtain rfl : m = zl := by omega
          have HXR := Lib.hid hx
          clear hx
          go_wp2
          refine ⟨⟨k + 1, by omega, by go_num, ?_⟩, by simp [intOf]; omega⟩
          rw [← keepJ_all HW.out, HKK.out, HZL.out]
          exact HXR.out
    · obtain rfl : k = n := by omega
      have f := (ref_cells hx).2.2.2.2.2.2
      have f1 := f 1
      have f2 := f 2
      have f3 := f 3
      have c2 := (ref_cells hx).2.2.1
      have c3 := (ref_cells hx).2.2.2.1
      have HXR := Lib.hid hx
      clear hx f
      go_wp2
      refine bodyPost_end (results_none rfl _ _ _) rfl ⟨rfl, ?_⟩
      have hxc := ((((HXR.out.setCell 1 (.slice none 0 0)).setCell 2 (.int .i64 (-1))).setCell 3 (.bool false)).p2.tail.rowNil 120 2).p2.p2
      refine ref_close (vk := .slice ak kl ck) (vw := .slice none 0 0) ?_
      unfold keepD
      dsimp only
      rw [keepK_len, HKL.out, HN.out]
      exact hxc

end Go.Proofs.YtmkpglabiikdeaaGreatDoor

