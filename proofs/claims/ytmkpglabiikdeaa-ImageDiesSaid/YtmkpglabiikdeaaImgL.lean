/-
  Layer 14: ImageSectors, ImageBack, walked.
-/
import Derived.Test.YtmkpglabiikdeaaImgK
namespace Go.Proofs.Ytmkpglabiikdeaa
open Go.RowKit PH

set_option maxRecDepth 100000 in
set_option maxHeartbeats 1600000 in
theorem imageSectors_ok (n : Int) (s : ByteArray) (hs : s.size ≤ 9223372036854775807) (W : World) : Calls Try.prog 9 #[.int .i64 n, .string s] W fun e w' => e = .returned (.bool true) ∧ Below W.heap.size W w' := by
  by_cases hz : 1000 < s.size
  · go_enter Try.func9, Try.ntmps9
    go_wp2_with (go_at_call 43; refine (imgKnown_ok _).mono ?_; rintro e w2 ⟨rfl, hb⟩)
    go_ret
    exact ⟨rfl, hb⟩
  · have hz2 : s.size ≤ 1000 := by omega
    have HX := Lib.hid (Sat.start W)
    obtain ⟨v, hv⟩ : ∃ v, sectN n = v := ⟨_, rfl⟩
    have HV := Lib.hid hv
    clear hv
    go_enter Try.func9, Try.ntmps9
    go_wp2_with (first
      | (go_at_call 44; with_reducible refine (imgRead_nil _ _).mono ?_; rintro e w2 ⟨rfl, rfl⟩)
      | (go_at_call 45; with_reducible refine (sectors_ok n _).mono ?_; rintro e w3 ⟨rfl, rfl⟩; rw [HV.out])
      | (go_at_call 46; with_reducible refine (refSectors_ok n _).mono ?_; rintro e w4 ⟨rfl, rfl⟩; rw [HV.out])
      | (go_at_call 47; with_reducible refine (imgWrite_nil HX.out _ _ s).mono ?_; rintro e w5 ⟨rfl, hx5⟩; have HX5 := Lib.hid hx5; clear hx5)
      | (go_at_call 43; refine (imgKnown_ok _).mono ?_; rintro e w6 ⟨rfl, hb6⟩; have HB6 := Lib.hid (HX5.out.ofBelow hb6); clear hb6))
    go_ret
    exact ⟨rfl, HB6.out.below⟩

theorem crash_none {D : Dk} (hm : madeB D = true) (hw : D.wait = []) : crashD D [] = { D with fuse := -1, dead := false } := by
  unfold crashD keepD
  rw [if_pos hm, hw]
  rfl
theorem made_of {D : Dk} (al : aliveE D = 0) : madeB D = true := by
  unfold aliveE at al
  cases h : madeB D with
  | true => rfl
  | false => rw [h] at al; cases al
theorem back_states (a b : ByteArray) (ha : a.size ≤ 1200) (hb : b.size ≤ 1200) : ∃ Da Db Dc Dd,
    imgW (newD 30) (0 : Nat) (imgB a) (secs a.size) = (0, Da) ∧ OkD Da ∧ Da.writes ≤ 1000 ∧ Da.wait.length ≤ 1000 ∧ areaE Da (12 : Nat) (12 : Nat) = 0 ∧
    imgW Da (12 : Nat) (imgB b) (secs b.size) = (0, Db) ∧ OkD Db ∧ aliveE Db = 0 ∧ areaE Db (0 : Nat) (12 : Nat) = 0 ∧ areaE Db (12 : Nat) (12 : Nat) = 0 ∧ (∀ i : Nat, i < Db.kept.length → (readV Db i).size = 128) ∧
    imgRd Db (0 : Nat) (12 : Nat) = (a, 0) ∧ imgRd Db (12 : Nat) (12 : Nat) = (b, 0) ∧ Db.barriers < 1000000 ∧ barrierD Db = Dc ∧ OkD Dc ∧ crashD Dc [] = Dd ∧ OkD Dd ∧ aliveE Dd = 0 ∧ areaE Dd (0 : Nat) (12 : Nat) = 0 ∧
    (∀ i : Nat, i < Dd.kept.length → (readV Dd i).size = 128) ∧ imgRd Dd (0 : Nat) (12 : Nat) = (a, 0) := by
  have hsa : secs a.size ≤ 10 := by unfold secs; omega
  have hsb : secs b.size ≤ 10 := by unfold secs; omega
  have al := newD_alive (n := 30) (by omega)
  have hk := newD_len 30
  have hTa := imgB_size a
  have hTb := imgB_size b
  have e1 := imgW_live al (by decide : -1 ≤ (newD 30).fuse) (a := 0) hTa (by rw [hk]; omega) (secs a.size) (Nat.le_refl _) (.inl rfl)
  have ok1 := imgW_ok (newD_ok (n := 30) (by omega)) (0 : Nat) (imgB a) (secs a.size) (by show (0 : Int) + _ < _; omega) (by show 0 + _ < _; omega)
  rw [e1] at ok1
  obtain ⟨Da, hDa⟩ : ∃ D, wroteK (newD 30) 0 (imgB a) (secs a.size) = D := ⟨_, rfl⟩
  have alA : aliveE Da = 0 := hDa ▸ wroteK_alive al _ _ _
  have fuA : Da.fuse = -1 := hDa ▸ wroteK_fuse rfl _ _ _
  have szA : Sz Da := hDa ▸ (sz_new 30).wroteK hTa 0 (Nat.le_refl _)
  have wtA : Da.wait = [] ++ secL (imgB a) 0 (secs a.size) := by rw [← hDa]; rfl
  rw [hDa] at e1 ok1
  dsimp only at ok1
  obtain ⟨okA, wrA, wlA, baA, kA⟩ := ok1
  have lenA : Da.kept.length = 30 := by rw [kA]; exact hk
  have wrA2 : Da.writes ≤ 10 := by have h : (newD 30).writes = 0 := rfl; rw [h] at wrA; omega
  have wlA2 : Da.wait.length ≤ 10 := by have h : (newD 30).wait.length = 0 := rfl; rw [h] at wlA; omega
  have e2 := imgW_live alA (by omega) (a := 12) hTb (by rw [lenA]; omega) (secs b.size) (Nat.le_refl _) (.inl fuA)
  have ok2 := imgW_ok okA (12 : Nat) (imgB b) (secs b.size) (by omega) (by omega)
  rw [e2] at ok2
  obtain ⟨Db, hDb⟩ : ∃ D, wroteK Da 12 (imgB b) (secs b.size) = D := ⟨_, rfl⟩
  have alB : aliveE Db = 0 := hDb ▸ wroteK_alive alA _ _ _
  have fuB : Db.fuse = -1 := hDb ▸ wroteK_fuse fuA _ _ _
  have szB : Sz Db := hDb ▸ szA.wroteK hTb 12 (Nat.le_refl _)
  have wtB : Db.wait = Da.wait ++ secL (imgB b) 12 (secs b.size) := by rw [← hDb]; rfl
  rw [hDb] at e2 ok2
  dsimp only at ok2
  obtain ⟨okB, wrB, wlB, baB, kB⟩ := ok2
  have lenB : Db.kept.length = 30 := by rw [kB]; exact lenA
  have bar0 : (newD 30).barriers = 0 := rfl
  have rdA : ∀ i : Nat, i < secs a.size → readV Db ((0 + i : Nat) : Int) = chunk (imgB a) i := fun i hi => by
    rw [readV_out wtB kB (.inl (by omega))]
    exact readV_in wtA hi
  have rdB : ∀ i : Nat, i < secs b.size → readV Db ((12 + i : Nat) : Int) = chunk (imgB b) i := fun i hi => readV_in wtB hi
  obtain ⟨be, bw, bf, bd, bl, bk⟩ := barrier_reads okB alB fuB
  have okC := okB.barrier (by rw [baB, baA, bar0]; decide)
  have alC : aliveE (barrierD Db) = 0 := by
    have h1 := made_of alB
    unfold madeB at h1
    unfold aliveE madeB
    unfold aliveE madeB at alB
    rw [bl, bd]
    exact alB
  have hcr := crash_none (made_of alC) bw
  have lenD : (crashD (barrierD Db) []).kept.length = 30 := by rw [hcr]; show (barrierD Db).kept.length = 30; rw [bl]; exact lenB
  have rdD : ∀ i : Nat, i < 30 → readV (crashD (barrierD Db) []) i = readV Db i := fun i hi => by
    rw [hcr, ← bk i (by rw [lenB]; exact hi)]
    unfold readV lastAt
    dsimp only
    rw [bw]
    rfl
  have alD : aliveE (crashD (barrierD Db) []) = 0 := by
    rw [hcr]
    have h1 := made_of alC
    unfold aliveE
    have h2 : madeB { barrierD Db with fuse := -1, dead := false } = true := h1
    rw [h2]
    rfl
  refine ⟨Da, Db, barrierD Db, crashD (barrierD Db) [], e1, okA, by omega, by omega, area_ok (by omega) (by omega), e2, okB, alB, area_ok (by omega) (by omega), area_ok (by omega) (by omega), fun i hi => szB.read hi,
    imgRd_img (by omega) (by omega) rdA, imgRd_img (by omega) (by omega) rdB, by rw [baB, baA, bar0]; decide, rfl, okC, rfl, okC.crash [], alD, area_ok (by omega) (by omega), fun i hi => ?_, imgRd_img (by omega) (by omega) (fun i hi => ?_)⟩
  · rw [rdD i (by omega)]
    exact szB.read (by omega)
  · rw [rdD _ (by omega)]
    exact rdA i hi

set_option maxRecDepth 100000 in
set_option maxHeartbeats 1600000 in
theorem imageBack_ok (a b : ByteArray) (ha : a.size ≤ 9223372036854775807) (hb : b.size ≤ 9223372036854775807) (W : World) : Calls Try.prog 15 #[.string a, .string b] W fun e w' => e = .returned (.bool true) ∧ Below W.heap.size W w' := by
  by_cases hz : 1200 < a.size
  · go_enter Try.func15, Try.ntmps15
    go_wp2_with (go_at_call 43; refine (imgKnown_ok _).mono ?_; rintro e w2 ⟨rfl, hb⟩)
    go_ret
    exact ⟨rfl, hb⟩
  · by_cases hz2 : 1200 < b.size
    · go_enter Try.func15, Try.ntmps15
      go_wp2_with (go_at_call 43; refine (imgKnown_ok _).mono ?_; rintro e w2 ⟨rfl, hb⟩)
      go_ret
      exact ⟨rfl, hb⟩
    · have hza : a.size ≤ 1200 := by omega
      have hzb : b.size ≤ 1200 := by omega
      obtain ⟨Da, Db, Dc, Dd, e1, okA, wrA, wlA, arA, e2, okB, alB, arB0, arB1, szB, rdB0, rdB1, baB, hDc, okC, hDd, okD', alD, arD, szD, rdD⟩ := back_states a b hza hzb
      have w1 := fun {q : Nat} {E w : World} {L : List HP} (x : Sat E w (isDisk q (newD 30) :: L)) => imgWrite_go x (newD_ok (n := 30) (by omega)) (by decide) (by decide) ((0 : Nat) : Int) ((12 : Nat) : Int) a (by omega) (area_ok (by omega) (by rw [newD_len]; omega)) (by rw [sectN_yes (by omega)]; unfold secs; omega)
      rw [e1] at w1
      have w2 := fun {q : Nat} {E w : World} {L : List HP} (x : Sat E w (isDisk q Da :: L)) => imgWrite_go x okA wrA wlA ((12 : Nat) : Int) ((12 : Nat) : Int) b (by omega) arA (by rw [sectN_yes (by omega)]; unfold secs; omega)
      rw [e2] at w2
      have r1 := fun {q : Nat} {E w : World} {L : List HP} (x : Sat E w (isDisk q Db :: L)) => imgRead_ok x okB alB ((0 : Nat) : Int) ((12 : Nat) : Int) arB0 szB
      rw [rdB0] at r1
      have r2 := fun {q : Nat} {E w : World} {L : List HP} (x : Sat E w (isDisk q Db :: L)) => imgRead_ok x okB alB ((12 : Nat) : Int) ((12 : Nat) : Int) arB1 szB
      rw [rdB1] at r2
      have r3 := fun {q : Nat} {E w : World} {L : List HP} (x : Sat E w (isDisk q Dd :: L)) => imgRead_ok x okD' alD ((0 : Nat) : Int) ((12 : Nat) : Int) arD szD
      rw [rdD] at r3
      have HW1 : Hid (∀ {q : Nat} {E w : World} {L : List HP} (x : Sat E w (isDisk q (newD 30) :: L)), Calls Try.prog 47 #[.pointer (some ⟨q, 0, none⟩), .int .i64 0, .int .i64 12, .string a] w fun e w' => e = .returned (.int .i64 0) ∧ Sat E w' (isDisk q Da :: L)) := Lib.hid w1
      have HW2 : Hid (∀ {q : Nat} {E w : World} {L : List HP} (x : Sat E w (isDisk q Da :: L)), Calls Try.prog 47 #[.pointer (some ⟨q, 0, none⟩), .int .i64 12, .int .i64 12, .string b] w fun e w' => e = .returned (.int .i64 0) ∧ Sat E w' (isDisk q Db :: L)) := Lib.hid w2
      have HR1 : Hid (∀ {q : Nat} {E w : World} {L : List HP} (x : Sat E w (isDisk q Db :: L)), Calls Try.prog 44 #[.pointer (some ⟨q, 0, none⟩), .int .i64 0, .int .i64 12] w fun e w' => e = .returned (.tuple #[.string a, .int .i64 0]) ∧ Sat E w' (isDisk q Db :: L)) := Lib.hid r1
      have HR2 : Hid (∀ {q : Nat} {E w : World} {L : List HP} (x : Sat E w (isDisk q Db :: L)), Calls Try.prog 44 #[.pointer (some ⟨q, 0, none⟩), .int .i64 12, .int .i64 12] w fun e w' => e = .returned (.tuple #[.string b, .int .i64 0]) ∧ Sat E w' (isDisk q Db :: L)) := Lib.hid r2
      have HR3 : Hid (∀ {q : Nat} {E w : World} {L : List HP} (x : Sat E w (isDisk q Dd :: L)), Calls Try.prog 44 #[.pointer (some ⟨q, 0, none⟩), .int .i64 0, .int .i64 12] w fun e w' => e = .returned (.tuple #[.string a, .int .i64 0]) ∧ Sat E w' (isDisk q Dd :: L)) := Lib.hid r3
      have HN := Lib.hid (new_ok (n := 30) (Sat.start W) (by omega) (by omega))
      have HOKB := Lib.hid okB
      have HBAB := Lib.hid baB
      have HDC := Lib.hid hDc
      have HOKC := Lib.hid okC
      have HDD := Lib.hid hDd
      clear w1 w2 r1 r2 r3 e1 okA wrA wlA arA e2 okB alB arB0 arB1 szB rdB0 rdB1 baB hDc okC hDd okD' alD arD szD rdD
      go_enter Try.func15, Try.ntmps15
      go_wp2_with (first
        | (go_at_call 28; refine HN.out.mono ?_; rintro e w1 ⟨q, rfl, hx1⟩; have HX1 := Lib.hid hx1; clear hx1 HN)
        | (go_at_call 47; with_reducible refine (HW1.out HX1.out).mono ?_; rintro e w2 ⟨rfl, hx2⟩; have HX2 := Lib.hid hx2; clear hx2 HX1)
        | (go_at_call 47; with_reducible refine (HW2.out HX2.out).mono ?_; rintro e w3 ⟨rfl, hx3⟩; have HX3 := Lib.hid hx3; clear hx3 HX2)
        | (go_at_call 44; with_reducible refine (HR1.out HX3.out).mono ?_; rintro e w4 ⟨rfl, hx4⟩; have HX4 := Lib.hid hx4; clear hx4 HX3)
        | (go_at_call 44; with_reducible refine (HR2.out HX4.out).mono ?_; rintro e w5 ⟨rfl, hx5⟩; have HX5 := Lib.hid hx5; clear hx5 HX4)
        | (go_at_call 34; with_reducible refine (barrier_ok HX5.out HOKB.out HBAB.out).mono ?_; rintro e w6 ⟨rfl, hx6⟩; rw [HDC.out] at hx6; have HX6 := Lib.hid hx6; clear hx6 HX5)
        | (go_at_call 30; refine (crash_ok (D := Dc) (a := none) (c := 0) (zs := []) HX6.out HOKC.out (fun W' hW j u hj => by simp at hj) (by simp)).mono ?_; rintro e w7 ⟨rfl, hx7⟩; rw [HDD.out] at hx7; have HX7 := Lib.hid hx7; clear hx7 HX6)
        | (go_at_call 44; with_reducible refine (HR3.out HX7.out).mono ?_; rintro e w8 ⟨rfl, hx8⟩; have HX8 := Lib.hid hx8; clear hx8 HX7)
        | (go_at_call 43; refine (imgKnown_ok _).mono ?_; rintro e w9 ⟨rfl, hb9⟩; have HB9 := Lib.hid (HX8.out.ofBelow hb9); clear hb9))
      go_ret
      exact ⟨rfl, HB9.out.tail.below⟩
end Go.Proofs.Ytmkpglabiikdeaa
