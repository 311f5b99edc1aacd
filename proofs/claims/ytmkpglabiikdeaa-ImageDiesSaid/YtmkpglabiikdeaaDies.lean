/-
  Layer 14: ImageDies, walked.
-/
import Derived.Test.YtmkpglabiikdeaaImgL
import Derived.Test.YtmkpglabiikdeaaOpenSteps
namespace Go.Proofs.Ytmkpglabiikdeaa
open Go.RowKit PH

theorem imgRd_or (D : Dk) (f c : Int) : (imgRd D f c).2 = 0 ∨ ((imgRd D f c).2 = 14 ∧ (imgRd D f c).1 = ByteArray.empty) := by
  unfold imgRd
  split
  · exact .inl rfl
  · exact .inr ⟨rfl, rfl⟩
theorem armD_live2 {D : Dk} (al : aliveE D = 0) (n : Int) : armD D n = { D with fuse := max n (-1) } := by unfold armD; rw [if_pos al]
theorem barrierD_writes (D : Dk) : (barrierD D).writes = D.writes := by
  have h := (burnD_same D).2.2.1
  unfold barrierD
  split
  · split
    · exact h
    · exact h
  · rfl
set_option maxHeartbeats 800000 in
theorem dies_states (a b : ByteArray) (ha : a.size ≤ 900) (hb : b.size ≤ 900) (fz : Nat) (hfz : fz < 10) (zs : List Int) : ∃ D1 D2 e D4 D5 s f, ∃ n : Nat,
    imgW (newD 8) (0 : Nat) (imgB a) (secs a.size) = (0, D1) ∧ OkD D1 ∧ D1.barriers < 1000000 ∧ barrierD D1 = D2 ∧ OkD D2 ∧ aliveE D2 = 0 ∧ OkD { D2 with fuse := (fz : Int) } ∧ D2.writes ≤ 1000 ∧ D2.wait.length ≤ 1000 ∧ areaE { D2 with fuse := (fz : Int) } (0 : Nat) (8 : Nat) = 0 ∧
    imgW { D2 with fuse := (fz : Int) } (0 : Nat) (imgB b) (secs b.size) = (e, D4) ∧ OkD D4 ∧ madeB D4 = true ∧ D4.wait.length = n ∧ crashD D4 zs = D5 ∧ OkD D5 ∧ aliveE D5 = 0 ∧ areaE D5 (0 : Nat) (8 : Nat) = 0 ∧
    (∀ i : Nat, i < D5.kept.length → (readV D5 i).size = 128) ∧ imgRd D5 (0 : Nat) (8 : Nat) = (s, f) ∧
    ((e = 0 ∧ n = secs b.size) ∨ e = 30) ∧ (e = 0 → (∀ i : Nat, i < secs b.size → (i : Int) ∈ zs) → s = b ∧ f = 0) ∧ (f = 0 ∨ (f = 14 ∧ s = ByteArray.empty)) ∧ (n = 0 ∨ zs = [] → s = a ∧ f = 0) := by
  have hsa : secs a.size ≤ 8 := by unfold secs; omega
  have hsb : secs b.size ≤ 8 := by unfold secs; omega
  have al := newD_alive (n := 8) (by omega)
  have hk := newD_len 8
  have hTa := imgB_size a
  have hTb := imgB_size b
  have e1 := imgW_live al (by decide : -1 ≤ (newD 8).fuse) (a := 0) hTa (by rw [hk]; omega) (secs a.size) (Nat.le_refl _) (.inl rfl)
  have ok1 := imgW_ok (newD_ok (n := 8) (by omega)) (0 : Nat) (imgB a) (secs a.size) (by show (0 : Int) + _ < _; omega) (by show 0 + _ < _; omega)
  rw [e1] at ok1
  obtain ⟨D1, hD1⟩ : ∃ D, wroteK (newD 8) 0 (imgB a) (secs a.size) = D := ⟨_, rfl⟩
  have al1 : aliveE D1 = 0 := hD1 ▸ wroteK_alive al _ _ _
  have fu1 : D1.fuse = -1 := hD1 ▸ wroteK_fuse rfl _ _ _
  have sz1 : Sz D1 := hD1 ▸ (sz_new 8).wroteK hTa 0 (Nat.le_refl _)
  have wt1 : D1.wait = [] ++ secL (imgB a) 0 (secs a.size) := by rw [← hD1]; rfl
  rw [hD1] at e1 ok1
  dsimp only at ok1
  obtain ⟨okA, wrA, wlA, baA, kA⟩ := ok1
  have len1 : D1.kept.length = 8 := by rw [kA]; exact hk
  have wrA2 : D1.writes ≤ 10 := by have h : (newD 8).writes = 0 := rfl; rw [h] at wrA; omega
  have bar0 : (newD 8).barriers = 0 := rfl
  have rd1 : ∀ i : Nat, i < secs a.size → readV D1 ((0 + i : Nat) : Int) = chunk (imgB a) i := fun i hi => readV_in wt1 hi
  obtain ⟨be, bw, bf, bd, bl, bk⟩ := barrier_reads okA al1 fu1
  have okB := okA.barrier (by rw [baA, bar0]; decide)
  have wr2 := barrierD_writes D1
  obtain ⟨D2, hD2⟩ : ∃ D, barrierD D1 = D := ⟨_, rfl⟩
  rw [hD2] at bw bf bd bl bk okB wr2
  have al2 : aliveE D2 = 0 := by
    unfold aliveE madeB at al1 ⊢
    rw [bl, bd]
    exact al1
  have len2 : D2.kept.length = 8 := by rw [bl]; exact len1
  have sz2k : ∀ s ∈ D2.kept, s.size = 128 := fun s hs => by
    obtain ⟨i, hi, rfl⟩ := List.mem_iff_getElem.1 hs
    have := bk i (by omega)
    rw [List.getD_eq_getElem?_getD, List.getElem?_eq_getElem hi] at this
    show (D2.kept[i]).size = 128
    have h2 : D2.kept[i] = readV D1 i := this
    rw [h2]
    exact sz1.read (by omega)
  obtain ⟨D3, hD3⟩ : ∃ D, { D2 with fuse := (fz : Int) } = D := ⟨_, rfl⟩
  have f3 : D3.fuse = fz := by rw [← hD3]
  have k3 : D3.kept = D2.kept := by rw [← hD3]
  have w3 : D3.wait = [] := by rw [← hD3]; exact bw
  have al3 : aliveE D3 = 0 := (alive_of (D := D2) k3 (by rw [← hD3])).trans al2
  have ok3 : OkD D3 := by
    rw [← hD3]
    exact ⟨by show (-1 : Int) ≤ (fz : Int); omega, by show (fz : Int) ≤ _; omega, okB.w0, okB.w1, okB.b0, okB.b1, okB.wl, okB.kl, okB.wk⟩
  have wr3 : D3.writes = D2.writes := by rw [← hD3]
  have sz3 : Sz D3 := ⟨by rw [k3]; exact sz2k, by rw [w3]; exact fun x hx => by cases hx⟩
  have ok4 := imgW_ok ok3 (0 : Nat) (imgB b) (secs b.size) (by rw [wr3, wr2]; omega) (by rw [w3]; show 0 + _ < _; omega)
  -- what Write leaves
  have hw4 : ∃ e D4, ∃ j : Nat, imgW D3 (0 : Nat) (imgB b) (secs b.size) = (e, D4) ∧ D4.kept = D2.kept ∧ D4.wait = secL (imgB b) 0 j ∧ j ≤ secs b.size ∧ ((e = 0 ∧ j = secs b.size) ∨ e = 30) := by
    by_cases hle : secs b.size ≤ fz
    · refine ⟨0, _, secs b.size, imgW_live al3 (by omega) (a := 0) hTb (by rw [k3, len2]; omega) (secs b.size) (Nat.le_refl _) (.inr (by omega)), k3, ?_, Nat.le_refl _, .inl ⟨rfl, rfl⟩⟩
      show D3.wait ++ _ = _
      rw [w3, List.nil_append]
    · have hd := imgW_dies al3 f3 (a := 0) hTb (by rw [k3, len2]; omega) (secs b.size - (fz + 1)) (by omega)
      rw [show fz + 1 + (secs b.size - (fz + 1)) = secs b.size by omega] at hd
      refine ⟨30, _, fz, hd, k3, ?_, by omega, .inr rfl⟩
      show D3.wait ++ _ = _
      rw [w3, List.nil_append]
  obtain ⟨e, D4, j, e4, k4, w4, hj, hej⟩ := hw4
  rw [e4] at ok4
  dsimp only at ok4
  have made4 : madeB D4 = true := by unfold madeB; rw [k4, len2]; rfl
  have lenw : D4.wait.length = j := by rw [w4, secL_len]
  have cr : crashD D4 zs = { keepD D4 (inKeep zs) with fuse := -1, dead := false } := by unfold crashD; rw [if_pos made4]
  have k5 : (crashD D4 zs).kept = keepK (inKeep zs) D2.kept (secL (imgB b) 0 j) j := by
    rw [cr]
    show keepK (inKeep zs) D4.kept D4.wait D4.wait.length = _
    rw [k4, lenw, w4]
  have w5 : (crashD D4 zs).wait = [] := by rw [cr]; rfl
  have len5 : (crashD D4 zs).kept.length = 8 := by rw [k5, keepK_len, len2]
  have rd5 : ∀ i : Nat, readV (crashD D4 zs) i = (keepK (inKeep zs) D2.kept (secL (imgB b) 0 j) j).getD i ByteArray.empty := fun i => by
    unfold readV lastAt
    rw [w5, k5]
    rfl
  have sz5 : Sz (crashD D4 zs) := ⟨fun s hs => by
    rw [k5] at hs
    obtain ⟨i, hi, rfl⟩ := List.mem_iff_getElem.1 hs
    have hg := keepK_get (inKeep zs) D2.kept (secL (imgB b) 0 j) i j
    rw [List.getElem?_eq_getElem hi] at hg
    rcases hg with hg | ⟨x, hx, _, hg⟩
    · exact sz2k _ (List.mem_of_getElem? hg.symm)
    · rw [Option.some.inj hg]
      exact sz_secL hTb 0 hj x hx, by rw [w5]; exact fun x hx => by cases hx⟩
  have al5 : aliveE (crashD D4 zs) = 0 := by
    unfold aliveE madeB
    rw [len5, if_pos (by decide), cr]
    rfl
  have hor := imgRd_or (crashD D4 zs) ((0 : Nat) : Int) ((8 : Nat) : Int)
  have hO2 : e = 0 → (∀ i : Nat, i < secs b.size → (i : Int) ∈ zs) → imgRd (crashD D4 zs) ((0 : Nat) : Int) ((8 : Nat) : Int) = (b, 0) := fun he hall => by
    have hjm : j = secs b.size := by
      rcases hej with ⟨_, h⟩ | h
      · exact h
      · rw [he] at h; cases h
    refine imgRd_img (a := 0) (by omega) (by omega) (fun i hi => ?_)
    rw [rd5, Nat.zero_add]
    have hp : inKeep zs i = true := List.contains_iff_mem.2 (hall i hi)
    exact keepK_secL (inKeep zs) D2.kept (imgB b) j (by omega) (by omega) hp j (by omega)
  have hO4 : j = 0 ∨ zs = [] → imgRd (crashD D4 zs) ((0 : Nat) : Int) ((8 : Nat) : Int) = (a, 0) := fun hnz => by
    have hkk : keepK (inKeep zs) D2.kept (secL (imgB b) 0 j) j = D2.kept := by
      rcases hnz with h | h
      · rw [h]; rfl
      · rw [h]; exact keepK_none _ _ _
    refine imgRd_img (a := 0) (by omega) (by omega) (fun i hi => ?_)
    rw [rd5, hkk, bk _ (by omega)]
    exact rd1 i hi
  have ar5 : areaE (crashD D4 zs) ((0 : Nat) : Int) ((8 : Nat) : Int) = 0 := area_ok (by omega) (by omega)
  have okc := ok4.1.crash zs
  have h128 : ∀ i : Nat, i < (crashD D4 zs).kept.length → (readV (crashD D4 zs) i).size = 128 := fun i hi => sz5.read hi
  obtain ⟨D5, hD5⟩ : ∃ D, crashD D4 zs = D := ⟨_, rfl⟩
  rw [hD5] at hor hO2 hO4 ar5 okc h128 al5
  obtain ⟨⟨s, f⟩, hr⟩ : ∃ r, imgRd D5 ((0 : Nat) : Int) ((8 : Nat) : Int) = r := ⟨_, rfl⟩
  rw [hr] at hor hO2 hO4
  have ar3 : areaE D3 ((0 : Nat) : Int) ((8 : Nat) : Int) = 0 := area_ok (by omega) (by rw [k3, len2]; omega)
  have wr2' : D2.writes ≤ 1000 := by rw [wr2]; omega
  have wl2' : D2.wait.length ≤ 1000 := by rw [bw]; decide
  have ba1' : D1.barriers < 1000000 := by rw [baA, bar0]; decide
  subst hD3
  exact ⟨D1, D2, e, D4, D5, s, f, j, e1, okA, ba1', hD2, okB, al2, ok3, wr2', wl2', ar3, e4, ok4.1, made4, lenw, hD5, okc, al5, ar5, h128, hr, hej,
    fun he hall => Prod.mk.inj (hO2 he hall), hor, fun h => Prod.mk.inj (hO4 h)⟩
def someB (zs : List Int) (i j : Nat) : Bool := decide ((i : Int) ∈ zs.take j)
theorem someB_succ {zs : List Int} {i j : Nat} {z : Int} (h : zs[j]? = some z) : someB zs i (j + 1) = (someB zs i j || decide (z = i)) := by
  unfold someB
  rw [List.take_add_one, h]
  simp only [Option.toList_some, List.mem_append, List.mem_singleton, Bool.decide_or]
  congr 1
  exact decide_eq_decide.2 ⟨fun h => h.symm, fun h => h.symm⟩
def fullB (zs : List Int) (k : Nat) : Bool := decide (∀ i : Nat, i < k → (i : Int) ∈ zs)
theorem fullB_succ (zs : List Int) (k : Nat) : fullB zs (k + 1) = (fullB zs k && someB zs k zs.length) := by
  unfold fullB someB
  rw [List.take_length, ← Bool.decide_and]
  refine decide_eq_decide.2 ⟨fun h => ⟨fun i hi => h i (by omega), h k (by omega)⟩, fun h i hi => ?_⟩
  by_cases e : i = k
  · rw [e]; exact h.2
  · exact h.1 i (by omega)

set_option maxRecDepth 100000 in
set_option maxHeartbeats 3200000 in
theorem imageDies_ok {W : World} {k0 : Option Addr} {cp : Nat} {zs : List Int} (a b : ByteArray) (ha : a.size ≤ 9223372036854775807) (hb : b.size ≤ 9223372036854775807) (fu : Int) (fu0 : 0 ≤ fu) (fu1 : fu ≤ 255) (hs : SeesI W k0 zs) (hl : zs.length ≤ 9223372036854775807) :
    Calls Try.prog 16 #[.string a, .string b, .int .u8 fu, .slice k0 zs.length cp] W fun e w' => e = .returned (.bool true) ∧ Below W.heap.size W w' := by
  by_cases hza : 900 < a.size
  · go_enter Try.func16, Try.ntmps16
    go_wp2_with (go_at_call 43; refine (imgKnown_ok _).mono ?_; rintro e w2 ⟨rfl, hb⟩)
    go_ret
    exact ⟨rfl, hb⟩
  by_cases hzb : 900 < b.size
  · go_enter Try.func16, Try.ntmps16
    go_wp2_with (go_at_call 43; refine (imgKnown_ok _).mono ?_; rintro e w2 ⟨rfl, hb⟩)
    go_ret
    exact ⟨rfl, hb⟩
  by_cases hzk : 60 < zs.length
  · go_enter Try.func16, Try.ntmps16
    go_wp2_with (go_at_call 43; refine (imgKnown_ok _).mono ?_; rintro e w2 ⟨rfl, hb⟩)
    go_ret
    exact ⟨rfl, hb⟩
  obtain ⟨fz, hfz⟩ : ∃ fz : Nat, fu % 10 = fz := ⟨(fu % 10).toNat, by omega⟩
  obtain ⟨D1, D2, e, D4, D5, s, f, n, e1, ok1, ba1, hD2, ok2, al2, ok3, wr3, wl3, ar3, e4, ok4, md4, ln4, hD5, ok5, al5, ar5, sz5, rd5, hej, hO2, hO3, hO4⟩ := dies_states a b (by omega) (by omega) fz (by omega) zs
  have hza2 : a.size ≤ 900 := by omega
  have hzb2 : b.size ≤ 900 := by omega
  have hzk2 : zs.length ≤ 60 := by omega
  have w1 := fun {q : Nat} {E w : World} {L : List HP} (x : Sat E w (isDisk q (newD 8) :: L)) => imgWrite_go x (newD_ok (n := 8) (by omega)) (by decide) (by decide) ((0 : Nat) : Int) ((8 : Nat) : Int) a (by omega) (area_ok (by omega) (by rw [newD_len]; omega)) (by rw [sectN_yes (by omega)]; unfold secs; omega)
  rw [e1] at w1
  have w2 := fun {q : Nat} {E w : World} {L : List HP} (x : Sat E w (isDisk q { D2 with fuse := (fz : Int) } :: L)) => imgWrite_go x ok3 wr3 wl3 ((0 : Nat) : Int) ((8 : Nat) : Int) b (by omega) ar3 (by rw [sectN_yes (by omega)]; unfold secs; omega)
  rw [e4] at w2
  have r1 := fun {q : Nat} {E w : World} {L : List HP} (x : Sat E w (isDisk q D5 :: L)) => imgRead_ok x ok5 al5 ((0 : Nat) : Int) ((8 : Nat) : Int) ar5 sz5
  rw [rd5] at r1
  have hsec : sectN b.size = secs b.size := sectN_yes (by omega)
  have hm1 := secs_pos b.size
  have hm2 : secs b.size ≤ 8 := by unfold secs; omega
  obtain ⟨mb, hmb⟩ : ∃ m, secs b.size = m := ⟨_, rfl⟩
  rw [hmb] at hsec hej hO2 hm1 hm2
  have hwt : (if madeB D4 then (D4.wait.length : Int) else 0) = n := by rw [md4, if_pos rfl, ln4]
  have harm : armD D2 (fu % 10) = { D2 with fuse := (fz : Int) } := by rw [armD_live2 al2, hfz, Int.max_eq_left (by omega)]
  have HW1 : Hid (∀ {q : Nat} {E w : World} {L : List HP} (x : Sat E w (isDisk q (newD 8) :: L)), Calls Try.prog 47 #[.pointer (some ⟨q, 0, none⟩), .int .i64 0, .int .i64 8, .string a] w fun e w' => e = .returned (.int .i64 0) ∧ Sat E w' (isDisk q D1 :: L)) := Lib.hid w1
  have HW2 : Hid (∀ {q : Nat} {E w : World} {L : List HP} (x : Sat E w (isDisk q { D2 with fuse := (fz : Int) } :: L)), Calls Try.prog 47 #[.pointer (some ⟨q, 0, none⟩), .int .i64 0, .int .i64 8, .string b] w fun e' w' => e' = .returned (.int .i64 e) ∧ Sat E w' (isDisk q D4 :: L)) := Lib.hid w2
  have HR1 : Hid (∀ {q : Nat} {E w : World} {L : List HP} (x : Sat E w (isDisk q D5 :: L)), Calls Try.prog 44 #[.pointer (some ⟨q, 0, none⟩), .int .i64 0, .int .i64 8] w fun e w' => e = .returned (.tuple #[.string s, .int .i64 f]) ∧ Sat E w' (isDisk q D5 :: L)) := Lib.hid r1
  have HN := Lib.hid (new_ok (n := 8) (Sat.start W) (by omega) (by omega))
  have HOK1 := Lib.hid ok1
  have HBA1 := Lib.hid ba1
  have HD2 := Lib.hid hD2
  have HOK4 := Lib.hid ok4
  have HWT := Lib.hid hwt
  have HARM := Lib.hid harm
  have HD5 := Lib.hid hD5
  have HEJ := Lib.hid hej
  have HO2 := Lib.hid hO2
  have HO3 := Lib.hid hO3
  have HO4 := Lib.hid hO4
  have HSEC := Lib.hid hsec
  have HS := Lib.hid hs
  clear w1 w2 r1 e1 ok1 ba1 hD2 ok2 al2 ok3 wr3 wl3 ar3 e4 ok4 md4 ln4 hD5 ok5 al5 ar5 sz5 rd5 hej hO2 hO3 hO4 hsec hwt harm hfz hmb hs hza hzb hzk
  go_enter Try.func16, Try.ntmps16
  go_wp2_with (first
    | (go_at_call 28; refine HN.out.mono ?_; rintro e' w1 ⟨q, rfl, hx1⟩; have HX1 := Lib.hid hx1; clear hx1 HN)
    | (go_at_call 47; with_reducible refine (HW1.out HX1.out).mono ?_; rintro e' w2 ⟨rfl, hx2⟩; have HX2 := Lib.hid hx2; clear hx2 HX1)
    | (go_at_call 34; with_reducible refine (barrier_ok HX2.out HOK1.out HBA1.out).mono ?_; rintro e' w3 ⟨rfl, hx3⟩; rw [HD2.out] at hx3; have HX3 := Lib.hid hx3; clear hx3 HX2)
    | (go_at_call 57; with_reducible refine (arm_ok HX3.out _).mono ?_; rintro e' w4 ⟨rfl, hx4⟩; rw [HARM.out] at hx4; have HX4 := Lib.hid hx4; clear hx4 HX3)
    | (go_at_call 47; with_reducible refine (HW2.out HX4.out).mono ?_; rintro e' w5 ⟨rfl, hx5⟩; have HX5 := Lib.hid hx5; clear hx5 HX4)
    | (go_at_call 41; with_reducible refine (waiting_ok HX5.out).mono ?_; rintro e' w6 ⟨rfl, rfl⟩; rw [HWT.out])
    | (go_at_call 30; with_reducible refine (crash_ok (D := D4) (a := k0) (c := cp) (zs := zs) HX5.out HOK4.out (fun W' hW => SeesI.kept HS.out hW.below) hl).mono ?_; rintro e' w7 ⟨rfl, hx7⟩; rw [HD5.out] at hx7; have HX7 := Lib.hid hx7; clear hx7 HX5)
    | (go_at_call 44; with_reducible refine (HR1.out HX7.out).mono ?_; rintro e' w8 ⟨rfl, hx8⟩; have HX8 := Lib.hid hx8; clear hx8 HX7))
  go_loopw [15, 16] (fun fl i wr => ∃ k : Nat, k ≤ mb ∧ i = .int .i64 k ∧ fl = .bool (fullB zs k) ∧ Sat W wr (isDisk q D5 :: heapIs W :: [])) (fun _ i _ => mb - (intOf i).toNat)
  case atStart => exact ⟨0, by omega, rfl, by simp [fullB], HX8.out⟩
  case round =>
    obtain ⟨k, hk, rfl, rfl, hx⟩ := hrel
    by_cases hkm : k < mb
    · have hki : (k : Int) < mb := by omega
      have hfs := fullB_succ zs k
      obtain ⟨fk, hfk⟩ : ∃ b, fullB zs k = b := ⟨_, rfl⟩
      rw [hfk] at hfs ⊢
      have HFS := Lib.hid hfs
      have HX9 := Lib.hid hx
      clear hx hfs hfk
      go_wp2_with (go_at_call 46; with_reducible refine (refSectors_ok _ _).mono ?_; rintro e' w13 ⟨rfl, rfl⟩; rw [HSEC.out])
      go_loopw [17, 18] (fun so j2 wr2 => ∃ j : Nat, j ≤ zs.length ∧ j2 = .int .i64 j ∧ so = .bool (someB zs k j) ∧ Sat W wr2 (isDisk q D5 :: heapIs W :: [])) (fun _ j2 _ => zs.length - (intOf j2).toNat)
      case atStart => exact ⟨0, by omega, rfl, by simp [someB], HX9.out⟩
      case round =>
        obtain ⟨j, hj, rfl, rfl, hx⟩ := hrel
        by_cases hjl : j < zs.length
        · have hji : (j : Int) < zs.length := by omega
          obtain ⟨z, hz⟩ : ∃ z, zs[j]? = some z := ⟨_, List.getElem?_eq_getElem hjl⟩
          have hss := someB_succ (i := k) hz
          obtain ⟨bk, off, rfl, hzc⟩ := SeesI.kept HS.out hx.p1.below j z hz
          obtain ⟨sj, hsj⟩ : ∃ b, someB zs k j = b := ⟨_, rfl⟩
          rw [hsj] at hss ⊢
          have HSS := Lib.hid hss
          have HX := Lib.hid hx
          clear hx hss hsj hz
          cases sj with
          | true =>
            go_wp2
            exact ⟨⟨j + 1, by omega, by go_num, by rw [HSS.out]; rfl, HX.out⟩, by simp [intOf]; omega⟩
          | false =>
            by_cases hzk : z = k
            · subst hzk
              go_wp2
              exact ⟨⟨j + 1, by omega, by go_num, by rw [HSS.out]; simp, HX.out⟩, by simp [intOf]; omega⟩
            · have hzb : (z == (k : Int)) = false := beq_eq_false_iff_ne.2 hzk
              go_wp2
              exact ⟨⟨j + 1, by omega, by go_num, by rw [HSS.out]; simp [hzk], HX.out⟩, by simp [intOf]; omega⟩
        · obtain rfl : j = zs.length := by omega
          obtain ⟨sb, hsb⟩ : ∃ b, someB zs k zs.length = b := ⟨_, rfl⟩
          have HSB := Lib.hid hsb
          rw [hsb]
          have HX := Lib.hid hx
          have hlt : ¬ ((zs.length : Int) < zs.length) := by omega
          clear hx hsb
          cases fk <;> cases sb
          all_goals go_wp2
          all_goals exact ⟨⟨k + 1, by omega, by go_num, by rw [HFS.out, HSB.out]; rfl, HX.out⟩, by simp [intOf]; omega⟩
    · obtain rfl : k = mb := by omega
      obtain ⟨fl, hfl⟩ : ∃ b, fullB zs k = b := ⟨_, rfl⟩
      rw [hfl]
      have hki : ¬ (k : Int) < k := by omega
      have hall : fl = true → ∀ i : Nat, i < k → (i : Int) ∈ zs := fun h => by rw [h] at hfl; exact of_decide_eq_true hfl
      have HALL := Lib.hid hall
      have HX := Lib.hid hx
      have hnil : zs = [] ↔ zs.length = 0 := List.length_eq_zero_iff.symm
      have HNIL := Lib.hid hnil
      clear hx hfl hall hnil
      rcases HEJ.out with ⟨rfl, rfl⟩ | rfl
      · cases fl with
        | true =>
          obtain ⟨rfl, rfl⟩ := HO2.out rfl (HALL.out rfl)
          go_wp2_with (first | (go_at_call 46; with_reducible refine (refSectors_ok _ _).mono ?_; rintro e' w13 ⟨rfl, rfl⟩; rw [HSEC.out]) | (go_at_call 43; refine (imgKnown_ok _).mono ?_; rintro e' w12 ⟨rfl, hb12⟩; have HB12 := Lib.hid (HX.out.ofBelow hb12); clear hb12))
          go_ret
          exact ⟨rfl, HB12.out.tail.below⟩
        | false =>
          by_cases hz0 : zs.length = 0
          · obtain ⟨rfl, rfl⟩ := HO4.out (.inr (HNIL.out.2 hz0))
            have hz1 : ¬ (zs.length : Int) > 0 := by omega
            have hn1 : (n : Int) > 0 := by omega
            go_wp2_with (first | (go_at_call 46; with_reducible refine (refSectors_ok _ _).mono ?_; rintro e' w13 ⟨rfl, rfl⟩; rw [HSEC.out]) | (go_at_call 43; refine (imgKnown_ok _).mono ?_; rintro e' w12 ⟨rfl, hb12⟩; have HB12 := Lib.hid (HX.out.ofBelow hb12); clear hb12))
            go_ret
            exact ⟨rfl, HB12.out.tail.below⟩
          · have hz1 : (zs.length : Int) > 0 := by omega
            have hn1 : (n : Int) > 0 := by omega
            rcases HO3.out with rfl | ⟨rfl, rfl⟩
            · go_wp2_with (first | (go_at_call 46; with_reducible refine (refSectors_ok _ _).mono ?_; rintro e' w13 ⟨rfl, rfl⟩; rw [HSEC.out]) | (go_at_call 43; refine (imgKnown_ok _).mono ?_; rintro e' w12 ⟨rfl, hb12⟩; have HB12 := Lib.hid (HX.out.ofBelow hb12); clear hb12))
              go_ret
              exact ⟨rfl, HB12.out.tail.below⟩
            · go_wp2_with (first | (go_at_call 46; with_reducible refine (refSectors_ok _ _).mono ?_; rintro e' w13 ⟨rfl, rfl⟩; rw [HSEC.out]) | (go_at_call 43; refine (imgKnown_ok _).mono ?_; rintro e' w12 ⟨rfl, hb12⟩; have HB12 := Lib.hid (HX.out.ofBelow hb12); clear hb12))
              go_ret
              exact ⟨rfl, HB12.out.tail.below⟩
      · by_cases hn0 : n = 0
        · obtain ⟨rfl, rfl⟩ := HO4.out (.inl hn0)
          have hn1 : ¬ (n : Int) > 0 := by omega
          go_wp2_with (first | (go_at_call 46; with_reducible refine (refSectors_ok _ _).mono ?_; rintro e' w13 ⟨rfl, rfl⟩; rw [HSEC.out]) | (go_at_call 43; refine (imgKnown_ok _).mono ?_; rintro e' w12 ⟨rfl, hb12⟩; have HB12 := Lib.hid (HX.out.ofBelow hb12); clear hb12))
          go_ret
          exact ⟨rfl, HB12.out.tail.below⟩
        · have hn1 : (n : Int) > 0 := by omega
          by_cases hz0 : zs.length = 0
          · obtain ⟨rfl, rfl⟩ := HO4.out (.inr (HNIL.out.2 hz0))
            have hz1 : ¬ (zs.length : Int) > 0 := by omega
            go_wp2_with (first | (go_at_call 46; with_reducible refine (refSectors_ok _ _).mono ?_; rintro e' w13 ⟨rfl, rfl⟩; rw [HSEC.out]) | (go_at_call 43; refine (imgKnown_ok _).mono ?_; rintro e' w12 ⟨rfl, hb12⟩; have HB12 := Lib.hid (HX.out.ofBelow hb12); clear hb12))
            go_ret
            exact ⟨rfl, HB12.out.tail.below⟩
          · have hz1 : (zs.length : Int) > 0 := by omega
            rcases HO3.out with rfl | ⟨rfl, rfl⟩
            · go_wp2_with (first | (go_at_call 46; with_reducible refine (refSectors_ok _ _).mono ?_; rintro e' w13 ⟨rfl, rfl⟩; rw [HSEC.out]) | (go_at_call 43; refine (imgKnown_ok _).mono ?_; rintro e' w12 ⟨rfl, hb12⟩; have HB12 := Lib.hid (HX.out.ofBelow hb12); clear hb12))
              go_ret
              exact ⟨rfl, HB12.out.tail.below⟩
            · go_wp2_with (first | (go_at_call 46; with_reducible refine (refSectors_ok _ _).mono ?_; rintro e' w13 ⟨rfl, rfl⟩; rw [HSEC.out]) | (go_at_call 43; refine (imgKnown_ok _).mono ?_; rintro e' w12 ⟨rfl, hb12⟩; have HB12 := Lib.hid (HX.out.ofBelow hb12); clear hb12))
              go_ret
              exact ⟨rfl, HB12.out.tail.below⟩
end Go.Proofs.Ytmkpglabiikdeaa
