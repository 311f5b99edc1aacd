/-
  posthouse/ring: no journal; a journal on a fresh disk; what must come of fixed calls; the law RingNil, walked.
-/
import Derived.Test.YtmkpglabiikdeaaGreatDoorRingD
import Derived.Test.YtmkpglabiikdeaaGreatDoorRingF
namespace Go.Proofs.YtmkpglabiikdeaaGreatDoor
open Go.RowKit PH

theorem fld_zeros : fld (zeros 128) 0 4 = 0 := by decide +kernel
theorem getPc_zeros : getPc (zeros 128) = none := by
  unfold getPc
  rw [if_neg]
  rintro ⟨-, -, -, h, -⟩
  have := (okPc_bounds h).1
  unfold pcOfB at this
  rw [fld_zeros] at this
  dsimp only at this
  omega
attribute [local irreducible] fld pcB pcOfB left

theorem append_nil (s : ByteArray) (W : World) : Calls Tryz.prog 26 #[.pointer none, .string s] W fun e w' => e = .returned (.int .i64 1) ∧ w' = W := by
  go_enter Tryz.func26, Tryz.ntmps26
  go_wp2
  go_ret
  exact ⟨rfl, rfl⟩
theorem room_nil (W : World) : Calls Tryz.prog 20 #[.pointer none] W fun e w' => e = .returned (.int .i64 0) ∧ w' = W := by
  go_enter Tryz.func20, Tryz.ntmps20
  go_wp2
  go_ret
  exact ⟨rfl, rfl⟩
theorem pos_nil (W : World) : Calls Tryz.prog 21 #[.pointer none] W fun e w' => e = .returned (.int .i64 0) ∧ w' = W := by
  go_enter Tryz.func21, Tryz.ntmps21
  go_wp2
  go_ret
  exact ⟨rfl, rfl⟩
theorem next_nil (W : World) : Calls Tryz.prog 22 #[.pointer none] W fun e w' => e = .returned (.int .i64 0) ∧ w' = W := by
  go_enter Tryz.func22, Tryz.ntmps22
  go_wp2
  go_ret
  exact ⟨rfl, rfl⟩
theorem clear_nil (W : World) : Calls Tryz.prog 23 #[.pointer none] W fun e w' => e = .returned (.tuple #[]) ∧ w' = W := by
  go_enter Tryz.func23, Tryz.ntmps23
  go_wp2
  refine bodyPost_end (results_none rfl _ _ _) rfl ⟨rfl, rfl⟩
theorem fits_nil (n : Int) (W : World) : Calls Tryz.prog 27 #[.pointer none, .int .i64 n] W fun e w' => e = .returned (.bool false) ∧ w' = W := by
  go_enter Tryz.func27, Tryz.ntmps27
  go_wp2_with (go_at_call 37; refine (count_ok _ _).mono ?_; rintro e w' ⟨rfl, rfl⟩)
  go_ret
  exact ⟨rfl, rfl⟩

theorem readV_new {n i : Nat} (h : i < n) : readV (newD n) i = zeros 128 := by
  unfold readV lastAt newD
  simp [h]
theorem openT_new {n fr cn po : Nat} {sq si ep : Int} (h : OkOpen (newD n) fr cn po sq si ep) : openT (newD n) fr cn po sq si ep = [] := by
  have h1 := h.c1
  rw [newD_len] at h1
  have hs := sec_lt (r := ⟨fr, cn, 0, 0, sq, ep⟩) h.c0 po 0
  unfold openT
  refine stands_stop (.inr (.inl (recAt_no1 ?_)))
  unfold pcAt
  rw [readV_new (by dsimp only at hs; omega)]
  exact getPc_zeros
theorem openR_new {n fr cn po : Nat} {sq si ep : Int} (h : OkOpen (newD n) fr cn po sq si ep) : openR (newD n) fr cn po sq si ep = ⟨fr, cn, po, 0, sq, ep⟩ := by
  unfold openR
  rw [openT_new h]
  simp only [List.map_nil, List.sum_nil, List.length_nil, Nat.add_zero, Rg.mk.injEq, true_and, and_true]
  exact ⟨Nat.mod_eq_of_lt h.p, by simp⟩
theorem Fine.new {n : Nat} (h2 : n ≤ 65536) : Fine n (newD n) 0 := ⟨.zero h2, rfl, rfl⟩
theorem opened_new {E W : World} {L : List HP} {b n fr cn po : Nat} {sq si ep : Int} (x : Sat E W (isDisk b (newD n) :: L)) (hn : 1 ≤ n) (h2 : n ≤ 65536) (h : OkOpen (newD n) fr cn po sq si ep) :
    Calls Tryz.prog 18 #[.pointer (some ⟨b, 0, none⟩), .int .i64 fr, .int .i64 cn, .int .i64 po, .int .i64 sq, .int .i64 si, .int .i64 ep] W fun e w' =>
      ∃ q a c, e = .returned (.tuple #[.pointer (some ⟨q, 0, none⟩), .slice a 0 c, .int .i64 0]) ∧ Sat E w' (isRing q b ⟨fr, cn, po, 0, sq, ep⟩ :: isDisk b (newD n) :: L) := by
  refine (open_ok x (newD_ok h2) ((Fine.new h2).alive hn) (fun i => (Fine.new h2).run.read i) h (by rw [openT_new h]; have := h.s1; simpa using this)).mono ?_
  rintro e w' ⟨q, v, rfl, hx⟩
  rw [openR_new h, openT_new h] at hx
  obtain ⟨a, c, rfl, -⟩ := rowSlice hx.p2
  exact ⟨q, a, c, rfl, hx.p2.tail⟩

theorem nums_of {e q : Int} (h1 : 1 ≤ e) (h2 : e ≤ 4294967295) (h3 : 1 ≤ q) : nums e q = true := by unfold nums; simp [h1, h2, h3]
theorem npc_of {s : ByteArray} {n k : Nat} (hs : s.size = n) (hk : max 1 ((n + 99) / 100) = k) : npc s.size = k := by unfold npc; rw [hs]; exact hk
theorem rgApp_1 : rgApp ⟨0, 4, 1, 0, 1, 2⟩ 2 = ⟨0, 4, 3, 2, 2, 2⟩ := by simp [rgApp]
theorem rgApp_2 : rgApp ⟨0, 4, 3, 0, 2, 2⟩ 3 = ⟨0, 4, 2, 3, 3, 2⟩ := by simp [rgApp]
theorem known_a1 {W w : World} {q b : Nat} {s : ByteArray} (hs : s.size = 150) (y : Sat W w (isRing q b ⟨0, 4, 1, 0, 1, 2⟩ :: isDisk b (newD 4) :: [heapIs W])) : Calls Tryz.prog 26 #[.pointer (some ⟨q, 0, none⟩), .string s] w fun e w' => e = .returned (.int .i64 0) ∧ ∃ D, Fine 4 D 2 ∧ Sat W w' (isRing q b ⟨0, 4, 3, 2, 2, 2⟩ :: isDisk b D :: [heapIs W]) := by
  have hn : npc s.size = 2 := npc_of hs (by decide)
  have f0 : Fine 4 (newD 4) 0 := .new (by omega)
  have h := append_ok y f0 (by omega) s (by omega) (nums_of (by dsimp only; omega) (by dsimp only; omega) (by dsimp only; omega)) (by dsimp only; omega) (by dsimp only; omega) (by dsimp only; omega) (by omega) (by dsimp only; omega) (by dsimp only; omega) (by rw [hn]; dsimp only; omega)
  refine h.mono ?_
  rintro e w' ⟨rfl, hx⟩
  have hf := f0.wrote (by omega) (r := ⟨0, 4, 1, 0, 1, 2⟩) (by dsimp only; omega) (by dsimp only; omega) (l := cutL s 2 1) (cutL_ok s 2 1 (by omega) (nums_of (by omega) (by omega) (by omega))) 2 (by rw [cutL_len, hn]; omega) (by omega)
  rw [hn, rgApp_1] at hx
  exact ⟨rfl, _, hf, hx⟩
theorem known_a2 {W w : World} {q b : Nat} {s : ByteArray} {D : Dk} (hs : s.size = 250) (y : Sat W w (isRing q b ⟨0, 4, 3, 2, 2, 2⟩ :: isDisk b D :: [heapIs W])) : Calls Tryz.prog 26 #[.pointer (some ⟨q, 0, none⟩), .string s] w fun e w' => e = .returned (.int .i64 31) ∧ Sat W w' (isRing q b ⟨0, 4, 3, 2, 2, 2⟩ :: isDisk b D :: [heapIs W]) := by
  have hn : npc s.size = 3 := npc_of hs (by decide)
  exact append_full y s (by omega) (nums_of (by dsimp only; omega) (by dsimp only; omega) (by dsimp only; omega)) (by dsimp only; omega) (by dsimp only; omega) (by rw [hn]; dsimp only; omega) (by dsimp only; omega)
theorem known_a3 {W w : World} {q b : Nat} {s : ByteArray} {D : Dk} (f : Fine 4 D 2) (hs : s.size = 250) (y : Sat W w (isRing q b ⟨0, 4, 3, 0, 2, 2⟩ :: isDisk b D :: [heapIs W])) : Calls Tryz.prog 26 #[.pointer (some ⟨q, 0, none⟩), .string s] w fun e w' => e = .returned (.int .i64 0) ∧ ∃ D, Sat W w' (isRing q b ⟨0, 4, 2, 3, 3, 2⟩ :: isDisk b D :: [heapIs W]) := by
  have hn : npc s.size = 3 := npc_of hs (by decide)
  have h := append_ok y f (by omega) s (by omega) (nums_of (by dsimp only; omega) (by dsimp only; omega) (by dsimp only; omega)) (by dsimp only; omega) (by dsimp only; omega) (by dsimp only; omega) (by omega) (by dsimp only; omega) (by dsimp only; omega) (by rw [hn]; dsimp only; omega)
  refine h.mono ?_
  rintro e w' ⟨rfl, hx⟩
  rw [hn, rgApp_2] at hx
  exact ⟨rfl, _, hx⟩

attribute [local irreducible] newD wroteR rgApp madeCells
set_option maxRecDepth 100000 in
set_option maxHeartbeats 800000 in
theorem known12_ok (W : World) : Calls Tryz.prog 19 #[] W fun e w' => e = .returned (.bool true) ∧ Below W.heap.size W w' := by
  have hopen : ∀ (b : Nat) (w : World), Sat W w (isDisk b (newD 4) :: [heapIs W]) → _ := fun b w y => opened_new (fr := 0) (cn := 4) (po := 1) (sq := 1) (si := 1) (ep := 2) y (by omega) (by omega) ⟨by omega, by rw [newD_len]; omega, by rw [newD_len]; omega, by omega, by omega, by omega, by omega, by omega, by omega, by omega⟩
  have ha1 := fun (q b : Nat) (w : World) (s : ByteArray) => known_a1 (W := W) (q := q) (b := b) (w := w) (s := s)
  have ha2 := fun (q b : Nat) (w : World) (s : ByteArray) (D : Dk) => known_a2 (W := W) (q := q) (b := b) (w := w) (s := s) (D := D)
  have ha3 := fun (q b : Nat) (w : World) (s : ByteArray) (D : Dk) => known_a3 (W := W) (q := q) (b := b) (w := w) (s := s) (D := D)
  obtain ⟨D0, hD0⟩ : ∃ D, newD 4 = D := ⟨_, rfl⟩
  have hnew := fun (x : Sat W W [heapIs W]) => new_ok (n := 4) x (by omega) (by omega)
  rw [hD0] at hopen ha1 hnew
  have hcl : ∀ (q b : Nat) (w : World) (M : List HP), Sat W w (isRing q b ⟨0, 4, 3, 2, 2, 2⟩ :: M) → Calls Tryz.prog 23 #[.pointer (some ⟨q, 0, none⟩)] w fun e w' => e = .returned (.tuple #[]) ∧ Sat W w' (isRing q b ⟨0, 4, 3, 0, 2, 2⟩ :: M) := fun q b w M y => clear_ok y
  have HNEW := Lib.hid hnew
  have HCL := Lib.hid hcl
  have HOPEN := Lib.hid hopen
  have HA1 := Lib.hid ha1
  have HA2 := Lib.hid ha2
  have HA3 := Lib.hid ha3
  clear hopen ha1 ha2 ha3 hnew hcl hD0
  go_enter Tryz.func19, Tryz.ntmps19
  go_wp2_with (first
    | (go_at_call 17; refine (HNEW.out (Sat.start _)).mono ?_; rintro e w1 ⟨b, rfl, hx1⟩; have HX1 := Lib.hid hx1; clear hx1)
    | (go_at_call 18; refine (HOPEN.out _ _ HX1.out).mono ?_; rintro e w2 ⟨q, a, c, rfl, hx2⟩; have HX2 := Lib.hid (hx2.alloc (.cells (madeCells #[.int .u8 0] 150) 5)).tail; clear hx2)
    | (at_make; refine wpList_bytes rfl _ _ 72 rfl 5 150 (by omega) (by kernel_rfl) Tryz.underlying72 rfl rfl ?_)
    | (refine wpList_string rfl _ 72 9 rfl 5 150 Tryz.underlying72 Tryz.underlying5 Tryz.underlying9 rfl ?_; intro s1 hs1)
    | (go_at_call 26; with_reducible refine (HA1.out _ _ _ _ hs1 HX2.out).mono ?_; rintro e w3 ⟨rfl, D3, hf3, hx3⟩; have HF3 := Lib.hid hf3; have HX3 := Lib.hid (hx3.alloc (.cells (madeCells #[.int .u8 0] 250) 5)).tail; clear hx3 hf3)
    | (at_make; refine wpList_bytes rfl _ _ 72 rfl 5 250 (by omega) (by kernel_rfl) Tryz.underlying72 rfl rfl ?_)
    | (refine wpList_string rfl _ 72 9 rfl 5 250 Tryz.underlying72 Tryz.underlying5 Tryz.underlying9 rfl ?_; intro s2 hs2)
    | (go_at_call 26; with_reducible refine (HA2.out _ _ _ _ _ hs2 HX3.out).mono ?_; rintro e w4 ⟨rfl, hx4⟩; have HX4 := Lib.hid hx4; clear hx4)
    | (go_at_call 23; with_reducible refine (HCL.out _ _ _ _ HX4.out).mono ?_; rintro e w5 ⟨rfl, hx5⟩; have HX5 := Lib.hid (hx5.alloc (.cells (madeCells #[.int .u8 0] 250) 5)).tail; clear hx5)
    | (go_at_call 26; with_reducible refine (HA3.out _ _ _ _ _ HF3.out hs2 HX5.out).mono ?_; rintro e w6 ⟨rfl, D6, hx6⟩; have HX6 := Lib.hid hx6; clear hx6)
    | (go_at_call 22; with_reducible refine (next_ok HX6.out).mono ?_; rintro e w7 ⟨rfl, hw⟩; subst w7; dsimp only)
    | (go_at_call 21; with_reducible refine (pos_ok HX6.out).mono ?_; rintro e w8 ⟨rfl, hw⟩; subst w8; dsimp only)
    | (go_at_call 20; with_reducible refine (room_ok HX6.out (by dsimp only; omega) (by dsimp only; omega)).mono ?_; rintro e w9 ⟨rfl, hw9⟩; have hx9 := HX6.out.drew; rw [← hw9] at hx9; have HX9 := Lib.hid hx9; clear hx9 hw9; dsimp only))
  go_ret
  exact ⟨rfl, HX9.out.p2.below⟩
end Go.Proofs.YtmkpglabiikdeaaGreatDoor
/-
  Layer 12: the law RingNil, walked.
-/
namespace Go.Proofs.YtmkpglabiikdeaaGreatDoor
open Go.RowKit PH

def TrueBelow12 (w : World) (e : Ending) (w' : World) : Prop := e = .returned (.bool true) ∧ Below w.heap.size w w'
theorem to_known12 {W w w' : World} {L : List HP} (x : Sat W w (heapIs W :: L)) (hb : Below w.heap.size w w') : Below W.heap.size W w' := (x.ofBelow hb).below
theorem nil_dead : (barrierD (armD (newD 3) 0)).dead = true := by kernel_rfl
theorem nil_len : 0 < (barrierD (armD (newD 3) 0)).kept.length := by
  have : (barrierD (armD (newD 3) 0)).kept.length = 3 := by kernel_rfl
  omega
attribute [local irreducible] newD barrierD armD

set_option maxRecDepth 100000 in
set_option maxHeartbeats 800000 in
theorem ringNil_ok (s : ByteArray) (n : Int) (W : World) (hs : s.size ≤ 9223372036854775807) : Calls Tryz.prog 6 #[.string s, .int .i64 n] W (TrueBelow12 W) := by
  by_cases h1 : 1000 < s.size
  · go_enter Tryz.func6, Tryz.ntmps6
    go_wp2_with (go_at_call 19; refine (known12_ok _).mono ?_; rintro e w' ⟨rfl, hb⟩)
    go_ret
    exact ⟨rfl, hb⟩
  · have hd := nil_dead
    have hl := nil_len
    have hok : OkD (armD (newD 3) 0) := (newD_ok (by omega)).arm 0 (by omega)
    have hba : (armD (newD 3) 0).barriers < 1000000 := by
      have : (armD (newD 3) 0).barriers = 0 := by with_unfolding_all rfl
      omega
    have hnew := fun (x : Sat W W [heapIs W]) => new_ok (n := 3) x (by omega) (by omega)
    have harm : ∀ (b : Nat) (w : World), Sat W w (isDisk b (newD 3) :: [heapIs W]) → _ := fun b w y => arm_ok y 0
    have hbar : ∀ (b : Nat) (w : World), Sat W w (isDisk b (armD (newD 3) 0) :: [heapIs W]) → _ := fun b w y => barrier_ok y hok hba
    have hop : ∀ (b : Nat) (w : World), Sat W w (isDisk b (barrierD (armD (newD 3) 0)) :: [heapIs W]) → _ := fun b w y => open_down y hl hd 0 1 0 1 1 1
    obtain ⟨D0, h0⟩ : ∃ D, newD 3 = D := ⟨_, rfl⟩
    rw [h0] at hnew harm hbar hop
    obtain ⟨D1, h1'⟩ : ∃ D, armD D0 0 = D := ⟨_, rfl⟩
    rw [h1'] at harm hbar hop
    obtain ⟨D2, h2'⟩ : ∃ D, barrierD D1 = D := ⟨_, rfl⟩
    rw [h2'] at hbar hop
    have HNEW := Lib.hid hnew
    have HARM := Lib.hid harm
    have HBAR := Lib.hid hbar
    have HOP := Lib.hid hop
    clear hnew harm hbar hop h0 h1' h2' hd hl hok hba
    go_enter Tryz.func6, Tryz.ntmps6
    go_wp2_with (first
      | (go_at_call 23; refine (clear_nil _).mono ?_; rintro e w1 ⟨rfl, hw⟩; subst w1)
      | (go_at_call 17; refine (HNEW.out (Sat.start _)).mono ?_; rintro e w1 ⟨b, rfl, hx1⟩; have HX1 := Lib.hid hx1; clear hx1)
      | (go_at_call 24; refine (HARM.out _ _ HX1.out).mono ?_; rintro e w2 ⟨rfl, hx2⟩; have HX2 := Lib.hid hx2; clear hx2)
      | (go_at_call 25; refine (HBAR.out _ _ HX2.out).mono ?_; rintro e w3 ⟨rfl, hx3⟩; have HX3 := Lib.hid hx3; clear hx3)
      | (go_at_call 18; with_reducible refine (open_nil _ _ _ _ _ _).mono ?_; rintro e w4 ⟨rfl, hw⟩; subst w4)
      | (go_at_call 18; with_reducible refine (HOP.out _ _ HX3.out).mono ?_; rintro e w4 ⟨rfl, hw⟩; subst w4)
      | (go_at_call 26; refine (append_nil _ _).mono ?_; rintro e w4 ⟨rfl, hw⟩; subst w4)
      | (go_at_call 27; refine (fits_nil _ _).mono ?_; rintro e w4 ⟨rfl, hw⟩; subst w4)
      | (go_at_call 22; refine (next_nil _).mono ?_; rintro e w4 ⟨rfl, hw⟩; subst w4)
      | (go_at_call 21; refine (pos_nil _).mono ?_; rintro e w4 ⟨rfl, hw⟩; subst w4)
      | (go_at_call 20; refine (room_nil _).mono ?_; rintro e w4 ⟨rfl, hw⟩; subst w4)
      | (go_at_call 19; refine (known12_ok _).mono ?_; rintro e w' ⟨rfl, hb⟩))
    go_ret
    exact ⟨rfl, to_known12 HX3.out.p1 hb⟩
end Go.Proofs.YtmkpglabiikdeaaGreatDoor
