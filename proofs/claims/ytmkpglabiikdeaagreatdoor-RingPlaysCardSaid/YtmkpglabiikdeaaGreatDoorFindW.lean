/-
  posthouse/ring: no journal; a journal on a fresh disk; what must come of fixed calls; the law RingNil, walked.
-/
import Derived.ProofKit
import Derived.Deep.Slices
import Derived.Deep.Fields
import Derived.OpenShut
import Derived.Test.YtmkpglabiikdeaaGreatDoorRingD
import Derived.Test.YtmkpglabiikdeaaGreatDoorRingF
import Derived.Test.YtmkpglabiikdeaaGreatDoorRows
import Derived.Test.YtmkpglabiikdeaaGreatDoorRange
import Derived.Test.YtmkpglabiikdeaaGreatDoorRunP
import Derived.Test.YtmkpglabiikdeaaGreatDoorPcG
import Derived.Test.YtmkpglabiikdeaaGreatDoorRingC
import Derived.Test.YtmkpglabiikdeaaGreatDoorLaws11
namespace Go.Proofs.YtmkpglabiikdeaaGreatDoor
open Go.RowKit PH

theorem fld_zeros : fld (zeros 128) 0 4 = 0 := by decide +kernel
theorem getPc_zeros : getPc (zeros 128) = none := by
  unfold getPc
  rw [if_neg]
  rintro ⟨-, -, -, h, -⟩
  have := (okPc_bounds h).1
  unfold pcOfB at this
  rw [fld_zeros] at this
  dsimp only at this
  omega
attribute [local irreducible] fld pcB pcOfB left

theorem append_nil (s : ByteArray) (W : World) : Calls Tryz.prog 26 #[.pointer none, .string s] W fun e w' => e = .returned (.int .i64 1) ∧ w' = W := by
  go_enter Tryz.func26, Tryz.ntmps26
  go_wp2
  go_ret
  exact ⟨rfl, rfl⟩
theorem room_nil (W : World) : Calls Tryz.prog 20 #[.pointer none] W fun e w' => e = .returned (.int .i64 0) ∧ w' = W := by
  go_enter Tryz.func20, Tryz.ntmps20
  go_wp2
  go_ret
  exact ⟨rfl, rfl⟩
theorem pos_nil (W : World) : Calls Tryz.prog 21 #[.pointer none] W fun e w' => e = .returned (.int .i64 0) ∧ w' = W := by
  go_enter Tryz.func21, Tryz.ntmps21
  go_wp2
  go_ret
  exact ⟨rfl, rfl⟩
theorem next_nil (W : World) : Calls Tryz.prog 22 #[.pointer none] W fun e w' => e = .returned (.int .i64 0) ∧ w' = W := by
  go_enter Tryz.func22, Tryz.ntmps22
  go_wp2
  go_ret
  exact ⟨rfl, rfl⟩
theorem clear_nil (W : World) : Calls Tryz.prog 23 #[.pointer none] W fun e w' => e = .returned (.tuple #[]) ∧ w' = W := by
  go_enter Tryz.func23, Tryz.ntmps23
  go_wp2
  refine bodyPost_end (results_none rfl _ _ _) rfl ⟨rfl, rfl⟩
theorem fits_nil (n : Int) (W : World) : Calls Tryz.prog 27 #[.pointer none, .int .i64 n] W fun e w' => e = .returned (.bool false) ∧ w' = W := by
  go_enter Tryz.func27, Tryz.ntmps27
  go_wp2_with (go_at_call 37; refine (count_ok _ _).mono ?_; rintro e w' ⟨rfl, rfl⟩)
  go_ret
  exact ⟨rfl, rfl⟩

theorem readV_new {n i : Nat} (h : i < n) : readV (newD n) i = zeros 128 := by
  unfold readV lastAt newD
  simp [h]
theorem openT_new {n fr cn po : Nat} {sq si ep : Int} (h : OkOpen (newD n) fr cn po sq si ep) : openT (newD n) fr cn po sq si ep = [] := by
  have h1 := h.c1
  rw [newD_len] at h1
  have hs := sec_lt (r := ⟨fr, cn, 0, 0, sq, ep⟩) h.c0 po 0
  unfold openT
  refine stands_stop (.inr (.inl (recAt_no1 ?_)))
  unfold pcAt
  rw [readV_new (by dsimp only at hs; omega)]
  exact getPc_zeros
theorem openR_new {n fr cn po : Nat} {sq si ep : Int} (h : OkOpen (newD n) fr cn po sq si ep) : openR (newD n) fr cn po sq si ep = ⟨fr, cn, po, 0, sq, ep⟩ := by
  unfold openR
  rw [openT_new h]
  simp only [List.map_nil, List.sum_nil, List.length_nil, Nat.add_zero, Rg.mk.injEq, true_and, and_true]
  exact ⟨Nat.mod_eq_of_lt h.p, by simp⟩
theorem Fine.new {n : Nat} (h2 : n ≤ 65536) : Fine n (newD n) 0 := ⟨.zero h2, rfl, rfl⟩
theorem opened_new {E W : World} {L : List HP} {b n fr cn po : Nat} {sq si ep : Int} (x : Sat E W (isDisk b (newD n) :: L)) (hn : 1 ≤ n) (h2 : n ≤ 65536) (h : OkOpen (newD n) fr cn po sq si ep) :
    Calls Tryz.prog 18 #[.pointer (some ⟨b, 0, none⟩), .int .i64 fr, .int .i64 cn, .int .i64 po, .int .i64 sq, .int .i64 si, .int .i64 ep] W fun e w' =>
      ∃ q a c, e = .returned (.tuple #[.pointer (some ⟨q, 0, none⟩), .slice a 0 c, .int .i64 0]) ∧ Sat E w' (isRing q b ⟨fr, cn, po, 0, sq, ep⟩ :: isDisk b (newD n) :: L) := by
  refine (open_ok x (newD_ok h2) ((Fine.new h2).alive hn) (fun i => (Fine.new h2).run.read i) h (by rw [openT_new h]; have := h.s1; simpa using this)).mono ?_
  rintro e w' ⟨q, v, rfl, hx⟩
  rw [openR_new h, openT_new h] at hx
  obtain ⟨a, c, rfl, -⟩ := rowSlice hx.p2
  exact ⟨q, a, c, rfl, hx.p2.tail⟩

theorem nums_of {e q : Int} (h1 : 1 ≤ e) (h2 : e ≤ 4294967295) (h3 : 1 ≤ q) : nums e q = true := by unfold nums; simp [h1, h2, h3]
theorem npc_of {s : ByteArray} {n k : Nat} (hs : s.size = n) (hk : max 1 ((n + 99) / 100) = k) : npc s.size = k := by unfold npc; rw [hs]; exact hk
theorem rgApp_1 : rgApp ⟨0, 4, 1, 0, 1, 2⟩ 2 = ⟨0, 4, 3, 2, 2, 2⟩ := by simp [rgApp]
theorem rgApp_2 : rgApp ⟨0, 4, 3, 0, 2, 2⟩ 3 = ⟨0, 4, 2, 3, 3, 2⟩ := by simp [rgApp]
theorem known_a1 {W w : World} {q b : Nat} {s : ByteArray} (hs : s.size = 150) (y : Sat W w (isRing q b ⟨0, 4, 1, 0, 1, 2⟩ :: isDisk b (newD 4) :: [heapIs W])) : Calls Tryz.prog 26 #[.pointer (some ⟨q, 0, none⟩), .string s] w fun e w' => e = .returned (.int .i64 0) ∧ ∃ D, Fine 4 D 2 ∧ Sat W w' (isRing q b ⟨0, 4, 3, 2, 2, 2⟩ :: isDisk b D :: [heapIs W]) := by
  have hn : npc s.size = 2 := npc_of hs (by decide)
  have f0 : Fine 4 (newD 4) 0 := .new (by omega)
  have h := append_ok y f0 (by omega) s (by omega) (nums_of (by dsimp only; omega) (by dsimp only; omega) (by dsimp only; omega)) (by dsimp only; omega) (by dsimp only; omega) (by dsimp only; omega) (by omega) (by dsimp only; omega) (by dsimp only; omega) (by rw [hn]; dsimp only; omega)
  refine h.mono ?_
  rintro e w' ⟨rfl, hx⟩
  have hf := f0.wrote (by omega) (r := ⟨0, 4, 1, 0, 1, 2⟩) (by dsimp only; omega) (by dsimp only; omega) (l := cutL s 2 1) (cutL_ok s 2 1 (by omega) (nums_of (by omega) (by omega) (by omega))) 2 (by rw [cutL_len, hn]; omega) (by omega)
  rw [hn, rgApp_1] at hx
  exact ⟨rfl, _, hf, hx⟩
theorem known_a2 {W w : World} {q b : Nat} {s : ByteArray} {D : Dk} (hs : s.size = 250) (y : Sat W w (isRing q b ⟨0, 4, 3, 2, 2, 2⟩ :: isDisk b D :: [heapIs W])) : Calls Tryz.prog 26 #[.pointer (some ⟨q, 0, none⟩), .string s] w fun e w' => e = .returned (.int .i64 31) ∧ Sat W w' (isRing q b ⟨0, 4, 3, 2, 2, 2⟩ :: isDisk b D :: [heapIs W]) := by
  have hn : npc s.size = 3 := npc_of hs (by decide)
  exact append_full y s (by omega) (nums_of (by dsimp only; omega) (by dsimp only; omega) (by dsimp only; omega)) (by dsimp only; omega) (by dsimp only; omega) (by rw [hn]; dsimp only; omega) (by dsimp only; omega)
theorem known_a3 {W w : World} {q b : Nat} {s : ByteArray} {D : Dk} (f : Fine 4 D 2) (hs : s.size = 250) (y : Sat W w (isRing q b ⟨0, 4, 3, 0, 2, 2⟩ :: isDisk b D :: [heapIs W])) : Calls Tryz.prog 26 #[.pointer (some ⟨q, 0, none⟩), .string s] w fun e w' => e = .returned (.int .i64 0) ∧ ∃ D, Sat W w' (isRing q b ⟨0, 4, 2, 3, 3, 2⟩ :: isDisk b D :: [heapIs W]) := by
  have hn : npc s.size = 3 := npc_of hs (by decide)
  have h := append_ok y f (by omega) s (by omega) (nums_of (by dsimp only; omega) (by dsimp only; omega) (by dsimp only; omega)) (by dsimp only; omega) (by dsimp only; omega) (by dsimp only; omega) (by omega) (by dsimp only; omega) (by dsimp only; omega) (by rw [hn]; dsimp only; omega)
  refine h.mono ?_
  rintro e w' ⟨rfl, hx⟩
  rw [hn, rgApp_2] at hx
  exact ⟨rfl, _, hx⟩

attribute [local irreducible] newD wroteR rgApp madeCells
set_option maxRecDepth 100000 in
set_option maxHeartbeats 800000 in
theorem known12_ok (W : World) : Calls Tryz.prog 19 #[] W fun e w' => e = .returned (.bool true) ∧ Below W.heap.size W w' := by
  have hopen : ∀ (b : Nat) (w : World), Sat W w (isDisk b (newD 4) :: [heapIs W]) → _ := fun b w y => opened_new (fr := 0) (cn := 4) (po := 1) (sq := 1) (si := 1) (ep := 2) y (by omega) (by omega) ⟨by omega, by rw [newD_len]; omega, by rw [newD_len]; omega, by omega, by omega, by omega, by omega, by omega, by omega, by omega⟩
  have ha1 := fun (q b : Nat) (w : World) (s : ByteArray) => known_a1 (W := W) (q := q) (b := b) (w := w) (s := s)
  have ha2 := fun (q b : Nat) (w : World) (s : ByteArray) (D : Dk) => known_a2 (W := W) (q := q) (b := b) (w := w) (s := s) (D := D)
  have ha3 := fun (q b : Nat) (w : World) (s : ByteArray) (D : Dk) => known_a3 (W := W) (q := q) (b := b) (w := w) (s := s) (D := D)
  obtain ⟨D0, hD0⟩ : ∃ D, newD 4 = D := ⟨_, rfl⟩
  have hnew := fun (x : Sat W W [heapIs W]) => new_ok (n := 4) x (by omega) (by omega)
  rw [hD0] at hopen ha1 hnew
  have hcl : ∀ (q b : Nat) (w : World) (M : List HP), Sat W w (isRing q b ⟨0, 4, 3, 2, 2, 2⟩ :: M) → Calls Tryz.prog 23 #[.pointer (some ⟨q, 0, none⟩)] w fun e w' => e = .returned (.tuple #[]) ∧ Sat W w' (isRing q b ⟨0, 4, 3, 0, 2, 2⟩ :: M) := fun q b w M y => clear_ok y
  have HNEW := Lib.hid hnew
  have HCL := Lib.hid hcl
  have HOPEN := Lib.hid hopen
  have HA1 := Lib.hid ha1
  have HA2 := Lib.hid ha2
  have HA3 := Lib.hid ha3
  clear hopen ha1 ha2 ha3 hnew hcl hD0
  go_enter Tryz.func19, Tryz.ntmps19
  go_wp2_with (first
    | (go_at_call 17; refine (HNEW.out (Sat.start _)).mono ?_; rintro e w1 ⟨b, rfl, hx1⟩; have HX1 := Lib.hid hx1; clear hx1)
    | (go_at_call 18; refine (HOPEN.out _ _ HX1.out).mono ?_; rintro e w2 ⟨q, a, c, rfl, hx2⟩; have HX2 := Lib.hid (hx2.alloc (.cells (madeCells #[.int .u8 0] 150) 5)).tail; clear hx2)
    | (at_make; refine wpList_bytes rfl _ _ 72 rfl 5 150 (by omega) (by kernel_rfl) Tryz.underlying72 rfl rfl ?_)
    | (refine wpList_string rfl _ 72 9 rfl 5 150 Tryz.underlying72 Tryz.underlying5 Tryz.underlying9 rfl ?_; intro s1 hs1)
    | (go_at_call 26; with_reducible refine (HA1.out _ _ _ _ hs1 HX2.out).mono ?_; rintro e w3 ⟨rfl, D3, hf3, hx3⟩; have HF3 := Lib.hid hf3; have HX3 := Lib.hid (hx3.alloc (.cells (madeCells #[.int .u8 0] 250) 5)).tail; clear hx3 hf3)
    | (at_make; refine wpList_bytes rfl _ _ 72 rfl 5 250 (by omega) (by kernel_rfl) Tryz.underlying72 rfl rfl ?_)
    | (refine wpList_string rfl _ 72 9 rfl 5 250 Tryz.underlying72 Tryz.underlying5 Tryz.underlying9 rfl ?_; intro s2 hs2)
    | (go_at_call 26; with_reducible refine (HA2.out _ _ _ _ _ hs2 HX3.out).mono ?_; rintro e w4 ⟨rfl, hx4⟩; have HX4 := Lib.hid hx4; clear hx4)
    | (go_at_call 23; with_reducible refine (HCL.out _ _ _ _ HX4.out).mono ?_; rintro e w5 ⟨rfl, hx5⟩; have HX5 := Lib.hid (hx5.alloc (.cells (madeCells #[.int .u8 0] 250) 5)).tail; clear hx5)
    | (go_at_call 26; with_reducible refine (HA3.out _ _ _ _ _ HF3.out hs2 HX5.out).mono ?_; rintro e w6 ⟨rfl, D6, hx6⟩; have HX6 := Lib.hid hx6; clear hx6)
    | (go_at_call 22; with_reducible refine (next_ok HX6.out).mono ?_; rintro e w7 ⟨rfl, hw⟩; subst w7; dsimp only)
    | (go_at_call 21; with_reducible refine (pos_ok HX6.out).mono ?_; rintro e w8 ⟨rfl, hw⟩; subst w8; dsimp only)
    | (go_at_call 20; with_reducible refine (room_ok HX6.out (by dsimp only; omega) (by dsimp only; omega)).mono ?_; rintro e w9 ⟨rfl, hw9⟩; have hx9 := HX6.out.drew; rw [← hw9] at hx9; have HX9 := Lib.hid hx9; clear hx9 hw9; dsimp only))
  go_ret
  exact ⟨rfl, HX9.out.p2.below⟩
end Go.Proofs.YtmkpglabiikdeaaGreatDoor
/-
  Layer 12: the law RingNil, walked.
-/
namespace Go.Proofs.YtmkpglabiikdeaaGreatDoor
open Go.RowKit PH

def TrueBelow12 (w : World) (e : Ending) (w' : World) : Prop := e = .returned (.bool true) ∧ Below w.heap.size w w'
theorem to_known12 {W w w' : World} {L : List HP} (x : Sat W w (heapIs W :: L)) (hb : Below w.heap.size w w') : Below W.heap.size W w' := (x.ofBelow hb).below
theorem nil_dead : (barrierD (armD (newD 3) 0)).dead = true := by kernel_rfl
theorem nil_len : 0 < (barrierD (armD (newD 3) 0)).kept.length := by
  have : (barrierD (armD (newD 3) 0)).kept.length = 3 := by kernel_rfl
  omega
attribute [local irreducible] newD barrierD armD

set_option maxRecDepth 100000 in
set_option maxHeartbeats 800000 in
theorem ringNil_ok (s : ByteArray) (n : Int) (W : World) (hs : s.size ≤ 9223372036854775807) : Calls Tryz.prog 6 #[.string s, .int .i64 n] W (TrueBelow12 W) := by
  by_cases h1 : 1000 < s.size
  · go_enter Tryz.func6, Tryz.ntmps6
    go_wp2_with (go_at_call 19; refine (known12_ok _).mono ?_; rintro e w' ⟨rfl, hb⟩)
    go_ret
    exact ⟨rfl, hb⟩
  · have hd := nil_dead
    have hl := nil_len
    have hok : OkD (armD (newD 3) 0) := (newD_ok (by omega)).arm 0 (by omega)
    have hba : (armD (newD 3) 0).barriers < 1000000 := by
      have : (armD (newD 3) 0).barriers = 0 := by with_unfolding_all rfl
      omega
    have hnew := fun (x : Sat W W [heapIs W]) => new_ok (n := 3) x (by omega) (by omega)
    have harm : ∀ (b : Nat) (w : World), Sat W w (isDisk b (newD 3) :: [heapIs W]) → _ := fun b w y => arm_ok y 0
    have hbar : ∀ (b : Nat) (w : World), Sat W w (isDisk b (armD (newD 3) 0) :: [heapIs W]) → _ := fun b w y => barrier_ok y hok hba
    have hop : ∀ (b : Nat) (w : World), Sat W w (isDisk b (barrierD (armD (newD 3) 0)) :: [heapIs W]) → _ := fun b w y => open_down y hl hd 0 1 0 1 1 1
    obtain ⟨D0, h0⟩ : ∃ D, newD 3 = D := ⟨_, rfl⟩
    rw [h0] at hnew harm hbar hop
    obtain ⟨D1, h1'⟩ : ∃ D, armD D0 0 = D := ⟨_, rfl⟩
    rw [h1'] at harm hbar hop
    obtain ⟨D2, h2'⟩ : ∃ D, barrierD D1 = D := ⟨_, rfl⟩
    rw [h2'] at hbar hop
    have HNEW := Lib.hid hnew
    have HARM := Lib.hid harm
    have HBAR := Lib.hid hbar
    have HOP := Lib.hid hop
    clear hnew harm hbar hop h0 h1' h2' hd hl hok hba
    go_enter Tryz.func6, Tryz.ntmps6
    go_wp2_with (first
      | (go_at_call 23; refine (clear_nil _).mono ?_; rintro e w1 ⟨rfl, hw⟩; subst w1)
      | (go_at_call 17; refine (HNEW.out (Sat.start _)).mono ?_; rintro e w1 ⟨b, rfl, hx1⟩; have HX1 := Lib.hid hx1; clear hx1)
      | (go_at_call 24; refine (HARM.out _ _ HX1.out).mono ?_; rintro e w2 ⟨rfl, hx2⟩; have HX2 := Lib.hid hx2; clear hx2)
      | (go_at_call 25; refine (HBAR.out _ _ HX2.out).mono ?_; rintro e w3 ⟨rfl, hx3⟩; have HX3 := Lib.hid hx3; clear hx3)
      | (go_at_call 18; with_reducible refine (open_nil _ _ _ _ _ _).mono ?_; rintro e w4 ⟨rfl, hw⟩; subst w4)
      | (go_at_call 18; with_reducible refine (HOP.out _ _ HX3.out).mono ?_; rintro e w4 ⟨rfl, hw⟩; subst w4)
      | (go_at_call 26; refine (append_nil _ _).mono ?_; rintro e w4 ⟨rfl, hw⟩; subst w4)
      | (go_at_call 27; refine (fits_nil _ _).mono ?_; rintro e w4 ⟨rfl, hw⟩; subst w4)
      | (go_at_call 22; refine (next_nil _).mono ?_; rintro e w4 ⟨rfl, hw⟩; subst w4)
      | (go_at_call 21; refine (pos_nil _).mono ?_; rintro e w4 ⟨rfl, hw⟩; subst w4)
      | (go_at_call 20; refine (room_nil _).mono ?_; rintro e w4 ⟨rfl, hw⟩; subst w4)
      | (go_at_call 19; refine (known12_ok _).mono ?_; rintro e w' ⟨rfl, hb⟩))
    go_ret
    exact ⟨rfl, to_known12 HX3.out.p1 hb⟩
end Go.Proofs.YtmkpglabiikdeaaGreatDoor
/-
  Layer 12's steps: an argument []Step opened to what its cells read as.
-/
namespace Go.Proofs.YtmkpglabiikdeaaGreatDoor
open Go.ChangeShapes Go.WideShapes Go.RowKit Go.Deep PH

theorem add_plain (b off k : Nat) : (⟨b, off, none⟩ : Addr).add k = ⟨b, off + k, none⟩ := by unfold Addr.add; split <;> simp_all
/-- A step of layer 12. -/
structure Pq where
  kind : Int
  s : ByteArray
  keep : List Int
  a : Option Addr
  c : Nat
def Pq.cells (x : Pq) : List Value := [.int .i64 x.kind, .string x.s, .slice x.a x.keep.length x.c]
def pqs (l : List Pq) : List Value := l.flatMap Pq.cells
theorem pqs_length : ∀ l : List Pq, (pqs l).length = l.length * 3
  | [] => rfl
  | p :: l => by
    have := pqs_length l
    unfold pqs at *
    rw [List.flatMap_cons, List.length_append, this, List.length_cons, Nat.succ_mul]
    show 3 + _ = _
    omega
/-- What is so of each step of an argument. -/
def Pq.ok (W : World) (x : Pq) : Prop := SeesI W x.a x.keep ∧ x.keep.length ≤ maxLen ∧ x.s.size ≤ maxLen

section
variable {H : Type} {enc : TypeId × Value → H} {W : World}

set_option maxRecDepth 100000 in
theorem open_ints {fuel len cap : Nat} {a : Option Addr} {x : DataW H × List MemPlace} (h : DataW.trod enc Tryz.prog W 0 (fun _ => true) true fuel 55 [.slice a len cap] = some x) :
    ∃ zs : List Int, zs.length = len ∧ SeesI W a zs ∧ len ≤ maxLen := by
  have hc1 : Tryz.prog.cellsOf 3 = 1 := by kernel_rfl
  rcases open_slice Tryz.underlying55 h with ⟨hcs, _⟩ | ⟨a0, len', cap', m, n, D, Pl, hcs, _, hl, hm, hmm, _, hel⟩
  · cases hcs
    exact ⟨[], rfl, fun j u hj => by simp at hj, by unfold maxLen; omega⟩
  · cases hcs
    simp only [if_true] at hmm
    subst hmm
    rw [hc1] at hel
    have hx : ∀ i, i < len → ∃ z : Int, W.cell? (a0.add (i * 1)) = some (.int .i64 z) := by
      intro i hi
      obtain ⟨cs', hc0, ht0⟩ := hel i (by omega)
      obtain ⟨_, _, hcell⟩ := World.cells?_some hc0
      have hlen : cs'.length = 1 := by
        have := World.cells?_some hc0
        simp_all
      match cs', hlen, ht0, hcell with
      | [c0], _, ht0, hcell =>
        obtain ⟨n0, e0, _, _⟩ := DataW.trod_int Tryz.underlying3 ht0
        cases e0
        refine ⟨n0, ?_⟩
        have := hcell 0 (by omega)
        simpa [Addr.add] using this
    obtain ⟨f, hf⟩ : ∃ f : Nat → Int, ∀ i, i < len → W.cell? (a0.add (i * 1)) = some (.int .i64 (f i)) := by
      classical
      refine ⟨fun i => if hi : i < len then (hx i hi).choose else 0, fun i hi => ?_⟩
      simp only [dif_pos hi]
      exact (hx i hi).choose_spec
    refine ⟨(List.range len).map f, by simp, ?_, Nat.le_trans hl hm⟩
    intro j u hj
    have hjl : j < len := by
      have := (List.getElem?_eq_some_iff.1 hj).1
      simpa using this
    have hu : f j = u := by simpa [hjl] using hj
    subst hu
    obtain ⟨b, off, spot⟩ := a0
    have h0 := hf j hjl
    obtain rfl : spot = none := by simpa [Addr.add] using World.cell?_spot (hf 0 (by omega))
    refine ⟨b, off, rfl, ?_⟩
    rw [add_plain, Nat.mul_one] at h0
    exact h0

set_option maxRecDepth 100000 in
theorem play_cells {fuel : Nat} {cs : List Value} {x : DataW H × List MemPlace} (h : DataW.trod enc Tryz.prog W 0 (fun _ => true) true fuel 57 cs = some x) :
    ∃ p : Pq, cs = p.cells ∧ p.ok W := by
  obtain ⟨xs, n, _, _, hlen, hxl, hf⟩ := DataW.trod_struct Tryz.underlying57 h
  have hc5 : Tryz.prog.cellsOf 57 = 3 := by kernel_rfl
  rw [hc5] at hlen
  match cs, hlen, xs, hxl with
  | [c0, c1, c2], _, [y0, y1, y2], _ =>
    have f0 := hf 0 _ rfl
    have f1 := hf 1 _ rfl
    have f2 := hf 2 _ rfl
    simp only [List.getElem?_cons_zero, List.getElem?_cons_succ] at f0 f1 f2
    obtain ⟨n0, e0, _, _⟩ := DataW.trod_int Tryz.underlying3 f0
    obtain ⟨n1, e1, _, hz2⟩ := DataW.trod_string Tryz.underlying9 f1
    cases e0; cases e1
    obtain ⟨a, len, cap, rfl⟩ : ∃ a len cap, c2 = .slice a len cap := by
      rcases open_slice Tryz.underlying55 f2 with ⟨hcs, _⟩ | ⟨a0, len', cap', m, n, D, Pl, hcs, _⟩
      · cases hcs; exact ⟨_, _, _, rfl⟩
      · cases hcs; exact ⟨_, _, _, rfl⟩
    obtain ⟨zs, rfl, hsee, hmax⟩ := open_ints f2
    exact ⟨⟨n0, n1, zs, a, cap⟩, rfl, hsee, hmax, hz2⟩

set_option maxRecDepth 100000 in
theorem open_plays {fuel len cap : Nat} {a : Option Addr} {x : DataW H × List MemPlace} (h : DataW.trod enc Tryz.prog W 0 (fun _ => true) true fuel 53 [.slice a len cap] = some x) :
    ∃ l : List Pq, l.length = len ∧ Sees W a (pqs l) ∧ (∀ x ∈ l, x.ok W) ∧ len ≤ maxLen := by
  have hc5 : Tryz.prog.cellsOf 57 = 3 := by kernel_rfl
  rcases open_slice Tryz.underlying53 h with ⟨hcs, _⟩ | ⟨a0, len', cap', m, n, D, Pl, hcs, _, hl, hm, hmm, _, hel⟩
  · cases hcs
    exact ⟨[], rfl, fun j u hj => by simp [pqs] at hj, fun x hx => by simp at hx, by unfold maxLen; omega⟩
  · cases hcs
    simp only [if_true] at hmm
    subst hmm
    rw [hc5] at hel
    have hx : ∀ i, i < len → ∃ p : Pq, (∀ j u, p.cells[j]? = some u → W.cell? ((a0.add (i * 3)).add j) = some u) ∧ p.ok W := by
      intro i hi
      obtain ⟨cs', hc0, ht0⟩ := hel i (by omega)
      obtain ⟨p, rfl, h1⟩ := play_cells ht0
      obtain ⟨_, _, hcell⟩ := World.cells?_some hc0
      refine ⟨p, fun j u hj => ?_, h1⟩
      have hj5 : j < 3 := (List.getElem?_eq_some_iff.1 hj).1
      rw [hcell j hj5, hj]
    obtain ⟨f, hf⟩ : ∃ f : Nat → Pq, ∀ i, i < len → (∀ j u, (f i).cells[j]? = some u → W.cell? ((a0.add (i * 3)).add j) = some u) ∧ (f i).ok W := by
      classical
      refine ⟨fun i => if hi : i < len then (hx i hi).choose else ⟨0, ByteArray.empty, [], none, 0⟩, fun i hi => ?_⟩
      simp only [dif_pos hi]
      exact (hx i hi).choose_spec
    refine ⟨(List.range len).map f, by simp, ?_, ?_, Nat.le_trans hl hm⟩
    · intro j u hj
      have hjl : j < len * 3 := by
        have := (List.getElem?_eq_some_iff.1 hj).1
        rw [pqs_length] at this
        simpa using this
      have hi : j / 3 < len := by omega
      have e : j / 3 * 3 + j % 3 = j := by omega
      have h1 := flat5 Pq.cells 3 (fun _ => rfl) ((List.range len).map f) (j / 3) (j % 3) (f (j / 3)) (by simp [hi]) (by omega)
      rw [e] at h1
      have h2 := (hf (j / 3) hi).1 (j % 3) u (by rw [← h1]; exact hj)
      obtain ⟨b, off, spot⟩ := a0
      obtain rfl : spot = none := by simpa [Addr.add] using World.cell?_spot ((hf 0 (by omega)).1 0 (.int .i64 (f 0).kind) rfl)
      refine ⟨b, off, rfl, ?_⟩
      rw [add_plain, add_plain, Nat.add_assoc, e] at h2
      exact h2
    · intro x hx
      obtain ⟨i, hi, rfl⟩ := List.mem_map.1 hx
      exact (hf i (List.mem_range.1 hi)).2
end
theorem Sees.play {w : World} {a : Option Addr} {l : List Pq} (h : Sees w a (pqs l)) {k : Nat} {x : Pq} (hk : l[k]? = some x) :
    ∃ b off, a = some ⟨b, off, none⟩ ∧ (∀ j u, x.cells[j]? = some u → w.cell? ⟨b, off + k * 3 + j, none⟩ = some u) := by
  have g : ∀ j, j < 3 → (pqs l)[k * 3 + j]? = x.cells[j]? := fun j hj => flat5 Pq.cells 3 (fun _ => rfl) l k j x hk hj
  obtain ⟨b, off, rfl, -⟩ := h _ _ (g 0 (by omega))
  refine ⟨b, off, rfl, fun j u hj => ?_⟩
  have hj11 : j < 3 := (List.getElem?_eq_some_iff.1 hj).1
  obtain ⟨b', off', e, h1⟩ := h _ u ((g j hj11).trans hj)
  cases e
  rw [Nat.add_assoc]; exact h1
/-- A step that is not too long. -/
def smallP (x : Pq) : Bool := decide (x.s.size ≤ 1000) && decide (x.keep.length ≤ 60)
def bigP (l : List Pq) : Bool := !(decide (l.length ≤ 40) && l.all smallP)
theorem bigP_no {l : List Pq} (h : bigP l = false) : l.length ≤ 40 ∧ ∀ x ∈ l, x.s.size ≤ 1000 ∧ x.keep.length ≤ 60 := by
  unfold bigP at h
  simp only [Bool.not_eq_false', Bool.and_eq_true, decide_eq_true_eq, List.all_eq_true] at h
  refine ⟨h.1, fun x hx => ?_⟩
  have := h.2 x hx
  unfold smallP at this
  simpa using this
theorem bigP_yes {l : List Pq} {x : Pq} (hx : x ∈ l) (h : smallP x = false) : bigP l = true := by
  unfold bigP
  have : l.all smallP = false := List.all_eq_false.2 ⟨x, hx, by simp [h]⟩
  rw [this]; simp
theorem bigP_all {l : List Pq} {k : Nat} (h : ∀ j, j < k → ∀ p, l[j]? = some p → smallP p = true) (hk : l.length ≤ k ∨ 40 ≤ k) : bigP l = decide (40 < l.length) := by
  by_cases hl : l.length ≤ 40
  · have : l.all smallP = true := List.all_eq_true.2 fun x hx => by
      obtain ⟨j, hj⟩ := List.getElem?_of_mem hx
      exact h j (by have := (List.getElem?_eq_some_iff.1 hj).1; omega) x hj
    unfold bigP
    rw [this]; simp [hl]
  · unfold bigP
    simp [hl]; omega

end Go.Proofs.YtmkpglabiikdeaaGreatDoor
/-
  Layer 12: steps that are not too long; lists of texts that are alike, walked.
-/
namespace Go.Proofs.YtmkpglabiikdeaaGreatDoor
open Go.RowKit PH

set_option maxRecDepth 100000 in
set_option maxHeartbeats 400000 in
theorem large12_ok {w : World} {a : Option Addr} {c : Nat} {l : List Pq} (h : Sees w a (pqs l)) (hl : l.length ≤ 9223372036854775807) (hsz : ∀ x ∈ l, x.s.size ≤ 9223372036854775807 ∧ x.keep.length ≤ 9223372036854775807) :
    Calls Tryz.prog 28 #[.slice a l.length c] w fun e w' => e = .returned (.bool (bigP l)) ∧ w' = w := by
  obtain ⟨n, hn⟩ : ∃ n, l.length = n := ⟨_, rfl⟩
  have HN := Lib.hid hn
  have HS := Lib.hid h
  have HSZ := Lib.hid hsz
  rw [hn] at hl ⊢
  clear hn h hsz
  obtain ⟨r, hr⟩ : ∃ r, bigP l = r := ⟨_, rfl⟩
  rw [hr]
  have HR := Lib.hid hr
  clear hr
  go_enter Tryz.func28, Tryz.ntmps28
  go_wp2
  go_loop [3] (fun i => ∃ k : Nat, k ≤ n ∧ k ≤ 40 ∧ i = .int .i64 k ∧ Hid (∀ j, j < k → ∀ p, l[j]? = some p → smallP p = true)) (fun i => 40 - (intOf i).toNat)
  case atStart => exact ⟨0, by omega, by omega, rfl, Lib.hid fun j hj => by omega⟩
  case round =>
    obtain ⟨k, hk, hk7, rfl, HNO⟩ := hrel
    by_cases h1 : k < n
    · by_cases h2 : k < 40
      · obtain ⟨x, hx⟩ : ∃ x, l[k]? = some x := ⟨_, List.getElem?_eq_getElem (by rw [HN.out]; exact h1)⟩
        obtain ⟨b, off, rfl, hc⟩ := HS.out.play hx
        obtain ⟨z1, z2⟩ := HSZ.out x (List.mem_of_getElem? hx)
        obtain ⟨kd, s, zs, ax, cx⟩ := x
        have c2 := hc 1 (.string s) rfl
        have c3 := hc 2 (.slice ax zs.length cx) rfl
        dsimp only at z1 z2
        have HXX := Lib.hid hx
        clear hx hc
        by_cases h3 : 1000 < s.size
        · go_wp2
          go_ret
          exact ⟨retB ((bigP_yes (List.mem_of_getElem? HXX.out) (by simp [smallP]; omega)).symm.trans HR.out), rfl⟩
        · by_cases h4 : 60 < zs.length
          · go_wp2
            go_ret
            exact ⟨retB ((bigP_yes (List.mem_of_getElem? HXX.out) (by simp [smallP]; omega)).symm.trans HR.out), rfl⟩
          · go_wp2
            go_round
            case rel => exact ⟨k + 1, by omega, by omega, by go_num, Lib.hid fun j hj p hp => by
              rcases Nat.lt_or_ge j k with h' | h'
              · exact HNO.out j h' p hp
              · obtain rfl : j = k := by omega
                rw [HXX.out] at hp; cases hp; simp [smallP]; omega⟩
            case measure => simp [intOf]; omega
      · go_wp2
        go_ret
        refine ⟨retB ?_, rfl⟩
        rw [← HR.out, bigP_all HNO.out (.inr (by omega)), HN.out]
        simp; omega
    · go_wp2
      go_ret
      refine ⟨retB ?_, rfl⟩
      rw [← HR.out, bigP_all HNO.out (.inl (by rw [HN.out]; omega)), HN.out]
      simp; omega

theorem Sees.text {w : World} {a : Option Addr} {l : List ByteArray} (h : Sees w a (sects l)) {k : Nat} {s : ByteArray} (hk : l[k]? = some s) : ∃ b off, a = some ⟨b, off, none⟩ ∧ w.cell? ⟨b, off + k, none⟩ = some (.string s) :=
  h k _ (by unfold sects; rw [List.getElem?_map, hk]; rfl)

set_option maxRecDepth 100000 in
set_option maxHeartbeats 800000 in
theorem sameN_ok {w : World} {a b : Option Addr} {c d : Nat} {l m : List ByteArray} (hl : Sees w a (sects l)) (hm : Sees w b (sects m)) (hn : l.length ≤ 9223372036854775806) (_hn2 : m.length ≤ 9223372036854775806) :
    Calls Tryz.prog 30 #[.slice a l.length c, .slice b m.length d] w fun e w' => e = .returned (.bool (decide (l = m))) ∧ Below w.heap.size w w' := by
  by_cases hlen : l.length = m.length
  · have hlb : ((l.length : Int) != (m.length : Int)) = false := by simp [hlen]
    have HLEN := Lib.hid hlen
    clear hlen
    go_enter Tryz.func30, Tryz.ntmps30
    go_wp2
    go_loopw [5] (fun i wr => ∃ k : Nat, k ≤ l.length ∧ i = .int .i64 k ∧ (∀ j, j < k → l[j]? = m[j]?) ∧ Below w.heap.size w wr) (fun i _ => l.length - (intOf i).toNat)
    case atStart => exact ⟨0, by omega, rfl, fun j hj => by omega, Below.refl _ _⟩
    case round =>
      obtain ⟨k, hk, rfl, hg, hb⟩ := hrel
      have HG := Lib.hid hg
      have HB := Lib.hid hb
      clear hg hb
      by_cases hlt : k < l.length
      · have hlt2 : k < m.length := by rw [← HLEN.out]; exact hlt
        obtain ⟨s, hs⟩ : ∃ s, l[k]? = some s := ⟨_, List.getElem?_eq_getElem hlt⟩
        obtain ⟨t, ht⟩ : ∃ s, m[k]? = some s := ⟨_, List.getElem?_eq_getElem hlt2⟩
        obtain ⟨b1, off1, rfl, c0⟩ := (hl.kept HB.out.drew).text hs
        obtain ⟨b2, off2, rfl, d0⟩ := (hm.kept HB.out.drew).text ht
        have HS := Lib.hid hs
        have HT := Lib.hid ht
        clear hl hm hs ht
        by_cases heq : s = t
        · subst heq
          go_wp2
          refine wp_region_planL [(0, true), (1, true), (2, true), (3, true), (4, true), (5, true), (6, true), (7, true), (8, true)]
            [(9, fun w1 => w1.cell? ⟨b1, off1 + k, none⟩ = some (.string s) ∧ w1.cell? ⟨b2, off2 + k, none⟩ = some (.string s))] (by kernel_rfl) (by kernel_rfl) (by intro c a d v w h; cases d <;> exact h) ?_ ?_
          · exact ⟨⟨c0, d0⟩, trivial⟩
          simp only [planOps, List.getElem?_cons_zero, List.getElem?_cons_succ]
          iterate 9 (first | ((apply plan_pure rfl; (intro w1; go_simp; try go_bits); with_reducible rfl); try simp only [Act.put, List.setIfInBounds_toArray, List.set_cons_zero, List.set_cons_succ]) | ((refine' plan_load 0 rfl (by kernel_rfl) rfl ?_ ?_; rotate_left; (intro w1 hw1; go_simp; with_reducible rfl)); try simp only [Act.put, List.setIfInBounds_toArray, List.set_cons_zero, List.set_cons_succ]))
          refine plan_nil ?_
          go_wp2
          refine ⟨⟨k + 1, by omega, by go_num, fun j hj => ?_, HB.out.drew⟩, by simp [intOf]; omega⟩
          rcases Nat.lt_or_ge j k with h' | h'
          · exact HG.out j h'
          · obtain rfl : j = k := by omega
            rw [HS.out, HT.out]
        · have hne := toList_ne heq
          have HNE := Lib.hid heq
          clear heq
          go_wp2
          refine wp_region_planL [(0, true), (1, true), (2, true), (3, true), (4, true), (5, true), (6, true), (7, true), (8, true)]
            [(9, fun w1 => w1.cell? ⟨b1, off1 + k, none⟩ = some (.string s) ∧ w1.cell? ⟨b2, off2 + k, none⟩ = some (.string t))] (by kernel_rfl) (by kernel_rfl) (by intro c a d v w h; cases d <;> exact h) ?_ ?_
          · exact ⟨⟨c0, d0⟩, trivial⟩
          simp only [planOps, List.getElem?_cons_zero, List.getElem?_cons_succ]
          iterate 9 (first | ((apply plan_pure rfl; (intro w1; go_simp; try go_bits); with_reducible rfl); try simp only [Act.put, List.setIfInBounds_toArray, List.set_cons_zero, List.set_cons_succ]) | ((refine' plan_load 0 rfl (by kernel_rfl) rfl ?_ ?_; rotate_left; (intro w1 hw1; go_simp; with_reducible rfl)); try simp only [Act.put, List.setIfInBounds_toArray, List.set_cons_zero, List.set_cons_succ]))
          refine plan_nil ?_
          go_wp2
          go_ret
          refine ⟨retB (decide_eq_false fun e => HNE.out ?_).symm, HB.out.drew⟩
          have h1 := HS.out
          rw [e, HT.out] at h1
          exact (Option.some.inj h1).symm
      · obtain rfl : k = l.length := by omega
        go_wp2
        go_ret
        refine ⟨retB (decide_eq_true ?_).symm, HB.out⟩
        apply List.ext_getElem?
        intro j
        rcases Nat.lt_or_ge j l.length with h' | h'
        · exact HG.out j h'
        · rw [List.getElem?_eq_none h', List.getElem?_eq_none (by rw [← HLEN.out]; exact h')]
  · have hlb : ((l.length : Int) != (m.length : Int)) = true := by simp; omega
    go_enter Tryz.func30, Tryz.ntmps30
    go_wp2
    go_ret
    exact ⟨retB (decide_eq_false fun e => hlen (by rw [e])).symm, Below.refl _ _⟩
end Go.Proofs.YtmkpglabiikdeaaGreatDoor
/-
  Whatever crashes, a journal finds records that were appended, in order: plain laws, no program in sight.
-/
namespace Go.Proofs.YtmkpglabiikdeaaGreatDoor
open Go.RowKit PH
attribute [local irreducible] fld pcB pcOfB left getPc

/-- How many places the first j records take. -/
def off (R : List (List Pc)) (j : Nat) : Nat := ((R.take j).map List.length).sum
theorem off_zero (R : List (List Pc)) : off R 0 = 0 := rfl
theorem off_succ {R : List (List Pc)} {j : Nat} {l : List Pc} (h : R[j]? = some l) : off R (j + 1) = off R j + l.length := by
  unfold off
  rw [List.take_add_one, h]
  simp
theorem off_mono {R : List (List Pc)} {i j : Nat} (h : i ≤ j) : off R i ≤ off R j := by
  unfold off
  have : R.take j = R.take i ++ (R.take j).drop i := by
    rw [show R.take i = (R.take j).take i from by rw [List.take_take]; congr 1; omega, List.take_append_drop]
  rw [this]
  simp
theorem off_take {R : List (List Pc)} {t j : Nat} (h : j ≤ t) : off (R.take t) j = off R j := by
  unfold off
  rw [List.take_take]; congr 3; omega
theorem off_append {R : List (List Pc)} {l : List Pc} {j : Nat} (h : j ≤ R.length) : off (R ++ [l]) j = off R j := by
  unfold off
  rw [List.take_append_of_le_length h]
/-- A piece's place is its own. -/
theorem off_inj {R : List (List Pc)} {j j' i i' : Nat} {l l' : List Pc} (h : R[j]? = some l) (h' : R[j']? = some l') (hi : i < l.length) (hi' : i' < l'.length) (e : off R j + i = off R j' + i') : j = j' ∧ i = i' := by
  have a := off_succ h
  have a' := off_succ h'
  rcases Nat.lt_trichotomy j j' with h1 | h1 | h1
  · have := off_mono (R := R) (show j + 1 ≤ j' by omega); omega
  · subst h1; omega
  · have := off_mono (R := R) (show j' + 1 ≤ j by omega); omega
theorem mod_inj {C st x y : Nat} (hx : x < C) (hy : y < C) (h : (st + x) % C = (st + y) % C) : x = y := by
  have h1 := Nat.div_add_mod (st + x) C
  have h2 := Nat.div_add_mod (st + y) C
  rw [h] at h1
  rcases Nat.lt_trichotomy ((st + x) / C) ((st + y) / C) with g | g | g
  · have : C * ((st + x) / C) + C ≤ C * ((st + y) / C) := by
      have := Nat.mul_le_mul_left C (show (st + x) / C + 1 ≤ (st + y) / C by omega)
      rwa [Nat.mul_add, Nat.mul_one] at this
    omega
  · rw [g] at h1; omega
  · have : C * ((st + y) / C) + C ≤ C * ((st + x) / C) := by
      have := Nat.mul_le_mul_left C (show (st + y) / C + 1 ≤ (st + x) / C by omega)
      rwa [Nat.mul_add, Nat.mul_one] at this
    omega

/-- The piece that is kept in a sector. -/
def kp (D : Dk) (i : Nat) : Option Pc := getPc (D.kept.getD i ByteArray.empty)
/-- The epoch that a record behind the first j may have at least. -/
def lsE (R : List (List Pc)) (since : Int) : Nat → Int
  | 0 => since
  | j + 1 => match R[j]? with
    | some l => epochOf l
    | none => since

/-- WHAT IS SO OF A JOURNAL: C places from start st on, the first record's number, the least epoch, the epoch; the records; k of them are of elder epochs; 'sure' of them are kept. -/
structure Jr (C st : Nat) (seq0 since E : Int) (R : List (List Pc)) (k sure : Nat) (D : Dk) : Prop where
  c : 0 < C
  sE : since ≤ E
  recs : ∀ (j : Nat) (l : List Pc), R[j]? = some l → whole l = true ∧ (∀ p ∈ l, p.seq = seq0 + j) ∧ lsE R since j ≤ epochOf l ∧ (k ≤ j → epochOf l = E) ∧ (j < k → epochOf l < E)
  room : off R R.length ≤ C
  ks : k ≤ sure
  sm : sure ≤ R.length
  kept : ∀ (j : Nat) (l : List Pc) (i : Nat) (p : Pc), R[j]? = some l → l[i]? = some p → j < sure → kp D ((st + (off R j + i)) % C) = some p
  stray : ∀ (i : Nat) (p : Pc), i < C → kp D i = some p → p.epoch ≤ E ∧ (p.epoch = E → p.seq < seq0 + R.length ∧ (seq0 + k ≤ p.seq → ∀ j : Nat, p.seq = seq0 + j → ∃ l, R[j]? = some l ∧ l[p.part.toNat]? = some p))
  wait : ∀ w ∈ D.wait, ∃ (j : Nat) (l : List Pc) (i : Nat) (p : Pc), sure ≤ j ∧ R[j]? = some l ∧ l[i]? = some p ∧ w = (pcB p, (((st + (off R j + i)) % C : Nat) : Int))
  waits : ∀ (j : Nat) (l : List Pc) (i : Nat) (p : Pc), sure ≤ j → R[j]? = some l → l[i]? = some p → (pcB p, (((st + (off R j + i)) % C : Nat) : Int)) ∈ D.wait
  stale : ∀ l, recAt (fun i => kp D ((st + i) % C)) C (off R k) (seq0 + k) = some l → epochOf l < lsE R since k ∨ E ≤ epochOf l

/-- The epoch ahead of a record. -/
theorem lsE_succ {R : List (List Pc)} {since : Int} {j : Nat} {l : List Pc} (h : R[j]? = some l) : lsE R since (j + 1) = epochOf l := by simp only [lsE, h]

/-- WHAT A CRASH LEAVES: in each sector what was kept, or a write that waited. -/
def Left (C st : Nat) (R : List (List Pc)) (sure : Nat) (D D' : Dk) : Prop := ∀ (i : Nat) (p : Pc), i < C → kp D' i = some p → kp D i = some p ∨ ∃ (j : Nat) (l : List Pc) (ii : Nat), sure ≤ j ∧ R[j]? = some l ∧ l[ii]? = some p ∧ i = (st + (off R j + ii)) % C
/-- What was sure is there still. -/
def Stays (C st : Nat) (R : List (List Pc)) (sure : Nat) (D' : Dk) : Prop := ∀ (j : Nat) (l : List Pc) (i : Nat) (p : Pc), R[j]? = some l → l[i]? = some p → j < sure → kp D' ((st + (off R j + i)) % C) = some p

theorem rec_epoch {l : List Pc} (h : whole l = true) {i : Nat} {p : Pc} (hp : l[i]? = some p) : p.epoch = epochOf l := (whole_get h hp).2.2.2.1

/-- A record of an elder epoch that stands behind a crash stood there ahead of it. -/
theorem Jr.elder {C st : Nat} {seq0 since E : Int} {R : List (List Pc)} {k sure : Nat} {D D' : Dk} (J : Jr C st seq0 since E R k sure D) (hl : Left C st R sure D D') {b : Nat} {sq : Int} {l : List Pc}
    (h : recAt (fun i => kp D' ((st + i) % C)) C b sq = some l) (he : epochOf l < E) : recAt (fun i => kp D ((st + i) % C)) C b sq = some l := by
  obtain ⟨hw, hf, hs, hc⟩ := recAt_some h
  refine recAt_of hw (fun i hi => ?_) (fun p hp => hs 0 p hp) hc
  have h1 := hf i hi
  rw [List.getElem?_eq_getElem hi] at h1 ⊢
  rcases hl _ _ (Nat.mod_lt _ J.c) h1 with h2 | ⟨j, l', ii, hj, hR, hii, -⟩
  · exact h2
  · exfalso
    obtain ⟨w', -, -, hE, -⟩ := J.recs j l' hR
    have e1 := rec_epoch w' hii
    have e2 := rec_epoch hw (List.getElem?_eq_getElem hi)
    have := hE (by have := J.ks; omega)
    omega

/-- A record of this very epoch that stands behind a crash is the one that was appended. -/
theorem Jr.own {C st : Nat} {seq0 since E : Int} {R : List (List Pc)} {k sure : Nat} {D D' : Dk} (J : Jr C st seq0 since E R k sure D) (hl : Left C st R sure D D') {b j : Nat} (hkj : k ≤ j) {l : List Pc}
    (h : recAt (fun i => kp D' ((st + i) % C)) C b (seq0 + j) = some l) (he : epochOf l = E) : R[j]? = some l := by
  obtain ⟨hw, hf, hs, hc⟩ := recAt_some h
  obtain ⟨h0, -⟩ := goods_all hw
  have key : ∀ i, i < l.length → ∃ l', R[j]? = some l' ∧ l'[i]? = l[i]? := fun i hi => by
    have h1 := hf i hi
    have hg := List.getElem?_eq_getElem hi
    rw [hg] at h1 ⊢
    have hpt := (whole_get hw hg).2.1
    have hsq := hs i _ hg
    have hep := rec_epoch hw hg
    rcases hl _ _ (Nat.mod_lt _ J.c) h1 with h2 | ⟨j', l', ii, hj, hR, hii, -⟩
    · obtain ⟨-, h4⟩ := J.stray _ _ (Nat.mod_lt _ J.c) h2
      obtain ⟨-, h5⟩ := h4 (by omega)
      obtain ⟨l', h6, h7⟩ := h5 (by omega) j hsq
      refine ⟨l', h6, ?_⟩
      rw [hpt] at h7
      simpa using h7
    · obtain ⟨w', hs', -⟩ := J.recs j' l' hR
      have e1 := hs' _ (List.mem_of_getElem? hii)
      obtain rfl : j' = j := by omega
      have e2 := (whole_get w' hii).2.1
      refine ⟨l', hR, ?_⟩
      obtain rfl : ii = i := by omega
      exact hii
  obtain ⟨l', hR, e0⟩ := key 0 h0
  rw [hR]
  congr 1
  obtain ⟨w', -⟩ := J.recs j l' hR
  have hlen : l'.length = l.length := by
    rw [List.getElem?_eq_getElem h0] at e0
    have a := (whole_get hw (List.getElem?_eq_getElem h0)).2.2.1
    have b := (whole_get w' e0).2.2.1
    omega
  apply List.ext_getElem?
  intro i
  by_cases hi : i < l.length
  · obtain ⟨l2, hR2, e⟩ := key i hi
    rw [hR] at hR2
    cases hR2
    exact e
  · rw [List.getElem?_eq_none (by omega), List.getElem?_eq_none (by omega)]

/-- WHAT IS FOUND: the first t records, at least all that are sure. -/
theorem Jr.finds {C st : Nat} {seq0 since E : Int} {R : List (List Pc)} {k sure : Nat} {D D' : Dk} (J : Jr C st seq0 since E R k sure D) (hl : Left C st R sure D D') (hst : Stays C st R sure D') :
    ∀ fuel j, j ≤ R.length → C - off R j ≤ fuel → ∃ t, j ≤ t ∧ t ≤ R.length ∧ (sure ≤ t ∨ t < j) ∧ stands (fun i => kp D' ((st + i) % C)) C (E + 1) fuel (off R j) (lsE R since j) (seq0 + j) = (R.take t).drop j ∧
      ∀ l, recAt (fun i => kp D' ((st + i) % C)) C (off R t) (seq0 + t) = some l → epochOf l < lsE R since t ∨ E + 1 ≤ epochOf l := by
  have sureAt : ∀ j, j < sure → ∃ l, R[j]? = some l ∧ recAt (fun i => kp D' ((st + i) % C)) C (off R j) (seq0 + j) = some l := fun j hj => by
    have hjm : j < R.length := by have := J.sm; omega
    have hR := List.getElem?_eq_getElem hjm
    obtain ⟨w, hs, -⟩ := J.recs j _ hR
    refine ⟨_, hR, recAt_of w (fun i hi => ?_) (fun p hp => hs p (List.mem_of_getElem? hp)) ?_⟩
    · rw [List.getElem?_eq_getElem hi]
      exact hst j _ i _ hR (List.getElem?_eq_getElem hi) hj
    · have := off_succ hR
      have := off_mono (R := R) (show j + 1 ≤ R.length by omega)
      have := J.room
      omega
  have top : ∀ j l, recAt (fun i => kp D' ((st + i) % C)) C (off R j) (seq0 + j) = some l → epochOf l ≤ E := fun j l h => by
    obtain ⟨hw, hf, -⟩ := recAt_some h
    obtain ⟨h0, -⟩ := goods_all hw
    have h1 := hf 0 h0
    have hg := List.getElem?_eq_getElem h0
    rw [hg] at h1
    have hep := rec_epoch hw hg
    rcases hl _ _ (Nat.mod_lt _ J.c) h1 with h2 | ⟨j', l', ii, hj, hR, hii, -⟩
    · have := (J.stray _ _ (Nat.mod_lt _ J.c) h2).1; omega
    · obtain ⟨w', -, -, hE, -⟩ := J.recs j' l' hR
      have := hE (by have := J.ks; omega)
      have := rec_epoch w' hii
      omega
  intro fuel
  induction fuel with
  | zero =>
    intro j hj hf
    have hno : ∀ l, recAt (fun i => kp D' ((st + i) % C)) C (off R j) (seq0 + j) ≠ some l := fun l h => by
      obtain ⟨hw, -, -, hc⟩ := recAt_some h
      obtain ⟨h0, -⟩ := goods_all hw
      omega
    refine ⟨j, Nat.le_refl _, hj, ?_, ?_, fun l h => absurd h (hno l)⟩
    · by_cases h : sure ≤ j
      · exact .inl h
      · obtain ⟨l, -, h2⟩ := sureAt j (by omega)
        exact absurd h2 (hno l)
    · rw [List.drop_of_length_le (by simp; omega)]; rfl
  | succ fuel ih =>
    intro j hj hf
    have stop : (∀ l, recAt (fun i => kp D' ((st + i) % C)) C (off R j) (seq0 + j) = some l → epochOf l < lsE R since j ∨ E + 1 ≤ epochOf l) → ∃ t, j ≤ t ∧ t ≤ R.length ∧ (sure ≤ t ∨ t < j) ∧ stands (fun i => kp D' ((st + i) % C)) C (E + 1) (fuel + 1) (off R j) (lsE R since j) (seq0 + j) = (R.take t).drop j ∧
      ∀ l, recAt (fun i => kp D' ((st + i) % C)) C (off R t) (seq0 + t) = some l → epochOf l < lsE R since t ∨ E + 1 ≤ epochOf l := fun h => by
      refine ⟨j, Nat.le_refl _, hj, ?_, ?_, h⟩
      · by_cases hs : sure ≤ j
        · exact .inl hs
        · obtain ⟨l, hR, h2⟩ := sureAt j (by omega)
          have h3 := h l h2
          obtain ⟨-, -, h4, -⟩ := J.recs j l hR
          have := top j l h2
          omega
      · rw [List.drop_of_length_le (by simp; omega)]
        cases hr : recAt (fun i => kp D' ((st + i) % C)) C (off R j) (seq0 + j) with
        | none => exact stands_stop (.inr (.inl hr))
        | some l => exact stands_stop (.inr (.inr ⟨l, hr, h l hr⟩))
    cases hr : recAt (fun i => kp D' ((st + i) % C)) C (off R j) (seq0 + j) with
    | none => exact stop fun l h => by rw [hr] at h; cases h
    | some l =>
      by_cases hin : epochOf l < lsE R since j ∨ E + 1 ≤ epochOf l
      · exact stop fun l' h => by rw [hr] at h; cases h; exact hin
      · have hlE := top j l hr
        have hRj : R[j]? = some l := by
          by_cases hs : j < sure
          · obtain ⟨l', hR, h2⟩ := sureAt j hs
            rw [hr] at h2
            rw [hR, h2]
          · have hkj : k ≤ j := by have := J.ks; omega
            refine J.own hl hkj hr ?_
            by_cases hjk : j = k
            · subst hjk
              by_cases he : epochOf l < E
              · have := J.stale l (J.elder hl hr he)
                omega
              · omega
            · obtain ⟨j1, rfl⟩ : ∃ j1, j = j1 + 1 := ⟨j - 1, by omega⟩
              have hR1 := List.getElem?_eq_getElem (show j1 < R.length by omega)
              have e1 := lsE_succ (since := since) hR1
              obtain ⟨-, -, -, h5, -⟩ := J.recs j1 _ hR1
              have := h5 (by omega)
              omega
        have hjm : j < R.length := (List.getElem?_eq_some_iff.1 hRj).1
        have ho := off_succ hRj
        obtain ⟨hw, -, -, hc⟩ := recAt_some hr
        obtain ⟨h0, -⟩ := goods_all hw
        obtain ⟨t, t1, t2, t3, t4, t5⟩ := ih (j + 1) (by omega) (by omega)
        refine ⟨t, by omega, t2, by omega, ?_, t5⟩
        rw [stands_go (by omega) hr hin, ← ho, ← lsE_succ (since := since) hRj]
        rw [show seq0 + (j : Int) + 1 = seq0 + ((j + 1 : Nat) : Int) from by push_cast; omega, t4]
        have : (R.take t)[j]? = some l := by rw [List.getElem?_take_of_lt (by omega), hRj]
        rw [List.drop_eq_getElem_cons (show j < (R.take t).length by simp; omega)]
        congr 1
        rw [List.getElem?_eq_getElem (show j < (R.take t).length by simp; omega)] at this
        exact (Option.some.inj this).symm
theorem stands_get {f : Nat → Option Pc} {C : Nat} {E : Int} : ∀ {fuel b : Nat} {least sq : Int} {j : Nat} {l : List Pc}, (stands f C E fuel b least sq)[j]? = some l → recAt f C (b + off (stands f C E fuel b least sq) j) (sq + j) = some l
  | 0, b, least, sq, j, l, h => by simp [stands] at h
  | fuel + 1, b, least, sq, j, l, h => by
    by_cases hb : b < C
    · cases hr : recAt f C b sq with
      | none => rw [stands_stop (.inr (.inl hr))] at h; simp at h
      | some l0 =>
        by_cases h2 : epochOf l0 < least ∨ E ≤ epochOf l0
        · rw [stands_stop (.inr (.inr ⟨l0, hr, h2⟩))] at h; simp at h
        · rw [stands_go hb hr h2] at h ⊢
          cases j with
          | zero =>
            rw [List.getElem?_cons_zero] at h
            cases h
            rw [off_zero, Nat.add_zero, show sq + ((0 : Nat) : Int) = sq from by simp]
            exact hr
          | succ j =>
            rw [List.getElem?_cons_succ] at h
            have := stands_get h
            rw [show off (l0 :: stands f C E fuel (b + l0.length) (epochOf l0) (sq + 1)) (j + 1) = l0.length + off (stands f C E fuel (b + l0.length) (epochOf l0) (sq + 1)) j from by simp [off], show sq + ((j + 1 : Nat) : Int) = sq + 1 + (j : Int) from by push_cast; omega, ← Nat.add_assoc]
            exact this
    · rw [stands_stop (.inl (by omega))] at h; simp at h
/-- A sector in which all that waits is kept. -/
theorem keepK_all (kept : List ByteArray) (wait : List (ByteArray × Int)) (c : Nat) (hc : c < kept.length) : ∀ n, (∃ j x, j < n ∧ wait[j]? = some x ∧ x.2.toNat = c) → ∃ x ∈ wait, x.2.toNat = c ∧ (keepK (fun _ => true) kept wait n)[c]? = some x.1
  | 0, h => by obtain ⟨j, x, h, -⟩ := h; omega
  | n + 1, h => by
    cases hw : wait[n]? with
    | none =>
      unfold keepK; rw [hw]; dsimp only
      refine keepK_all kept wait c hc n ?_
      obtain ⟨j, x, hj, hx, e⟩ := h
      refine ⟨j, x, ?_, hx, e⟩
      by_cases hjn : j = n
      · subst hjn; rw [hw] at hx; cases hx
      · omega
    | some y =>
      rw [keepK_yes hw rfl, List.getElem?_set]
      split
      · rename_i e
        rw [if_pos (by rw [keepK_len]; omega)]
        exact ⟨y, List.mem_of_getElem? hw, e, rfl⟩
      · rename_i e
        refine keepK_all kept wait c hc n ?_
        obtain ⟨j, x, hj, hx, e'⟩ := h
        refine ⟨j, x, ?_, hx, e'⟩
        by_cases hjn : j = n
        · subst hjn; rw [hw] at hx; cases hx; exact absurd e' e
        · omega
theorem kp_of {D : Dk} {i : Nat} {s : ByteArray} (h : D.kept[i]? = some s) : kp D i = getPc s := by
  unfold kp
  rw [List.getD_eq_getElem?_getD, h]; rfl
theorem kp_get {D : Dk} {i : Nat} (h : i < D.kept.length) : ∃ s, D.kept[i]? = some s ∧ kp D i = getPc s := ⟨_, List.getElem?_eq_getElem h, kp_of (List.getElem?_eq_getElem h)⟩
section
variable {C st : Nat} {seq0 since E : Int} {R : List (List Pc)} {k sure : Nat} {D D' : Dk}
theorem Jr.okp (J : Jr C st seq0 since E R k sure D) {j i : Nat} {l : List Pc} {p : Pc} (hR : R[j]? = some l) (hp : l[i]? = some p) : okPc p = true ∧ p.part = i ∧ p.seq = seq0 + j := by
  obtain ⟨w, hs, -⟩ := J.recs j l hR
  have := whole_get w hp
  exact ⟨this.1, this.2.1, hs p (List.mem_of_getElem? hp)⟩
theorem Jr.jlt {j : Nat} {l : List Pc} (hR : R[j]? = some l) : j < R.length := (List.getElem?_eq_some_iff.1 hR).1
theorem Jr.place (J : Jr C st seq0 since E R k sure D) {j i : Nat} {l : List Pc} {p : Pc} (hR : R[j]? = some l) (hp : l[i]? = some p) : off R j + i < C := by
  have h1 := off_succ hR
  have h2 := off_mono (R := R) (show j + 1 ≤ R.length by have := Jr.jlt hR; omega)
  have h3 := (List.getElem?_eq_some_iff.1 hp).1
  have := J.room
  omega
/-- What 'keep' leaves. -/
theorem Jr.left (J : Jr C st seq0 since E R k sure D) (hC : C ≤ D.kept.length) (ht : seq0 + R.length ≤ 9223372036854775807) (pick : Nat → Bool) (hk : D'.kept = keepK pick D.kept D.wait D.wait.length) : Left C st R sure D D' := fun i p hi hp => by
  obtain ⟨s, hs, e⟩ := kp_get (D := D') (i := i) (by rw [hk, keepK_len]; omega)
  rw [hp] at e
  rw [hk] at hs
  rcases keepK_get pick D.kept D.wait i D.wait.length with h | ⟨x, hx, hi2, h⟩
  · rw [h] at hs
    left
    rw [kp_of hs, e]
  · right
    rw [h] at hs
    cases hs
    obtain ⟨j, l, ii, p', hj, hR, hii, rfl⟩ := J.wait x hx
    obtain ⟨o1, o2, o3⟩ := J.okp hR hii
    have := Jr.jlt hR
    dsimp only at e hi2
    rw [getPc_pcB o1 (by omega)] at e
    cases e
    exact ⟨j, l, ii, hj, hR, hii, by rw [← hi2, Int.toNat_natCast]⟩
theorem Jr.stays (J : Jr C st seq0 since E R k sure D) (hC : C ≤ D.kept.length) (pick : Nat → Bool) (hk : D'.kept = keepK pick D.kept D.wait D.wait.length) : Stays C st R sure D' := fun j l i p hR hp hj => by
  have hm := Nat.mod_lt (st + (off R j + i)) J.c
  have h0 := J.kept j l i p hR hp hj
  obtain ⟨s, hs, e⟩ := kp_get (D := D) (i := (st + (off R j + i)) % C) (by omega)
  rw [h0] at e
  rcases keepK_get pick D.kept D.wait ((st + (off R j + i)) % C) D.wait.length with h | ⟨x, hx, hi2, h⟩
  · rw [← hk, hs] at h
    rw [kp_of h, e]
  · exfalso
    obtain ⟨j', l', i', p', hj', hR', hi', rfl⟩ := J.wait x hx
    dsimp only at hi2
    have h2 : (st + (off R j' + i')) % C = (st + (off R j + i)) % C := by rw [← hi2, Int.toNat_natCast]
    have := mod_inj (J.place hR' hi') (J.place hR hp) h2
    have := (off_inj hR' hR (List.getElem?_eq_some_iff.1 hi').1 (List.getElem?_eq_some_iff.1 hp).1 this).1
    omega
/-- All that waits is kept. -/
theorem Jr.barrier (J : Jr C st seq0 since E R k sure D) (hC : C ≤ D.kept.length) (ht : seq0 + R.length ≤ 9223372036854775807) (hk : D'.kept = keepK (fun _ => true) D.kept D.wait D.wait.length) (hw : D'.wait = []) : Jr C st seq0 since E R k R.length D' := by
  have hl := J.left hC ht _ hk
  have hs := J.stays hC _ hk
  refine ⟨J.c, J.sE, J.recs, J.room, by have := J.ks; have := J.sm; omega, Nat.le_refl _, ?_, ?_, ?_, ?_, ?_⟩
  · intro j l i p hR hp hj
    by_cases h : j < sure
    · exact hs j l i p hR hp h
    · obtain ⟨n, hn⟩ := List.getElem?_of_mem (J.waits j l i p (by omega) hR hp)
      have hm := Nat.mod_lt (st + (off R j + i)) J.c
      obtain ⟨x, hx, hi2, h3⟩ := keepK_all D.kept D.wait ((st + (off R j + i)) % C) (by omega) D.wait.length ⟨n, _, (List.getElem?_eq_some_iff.1 hn).1, hn, Int.toNat_natCast _⟩
      obtain ⟨j', l', i', p', hj', hR', hi', rfl⟩ := J.wait x hx
      dsimp only at hi2 h3
      have h2 : (st + (off R j' + i')) % C = (st + (off R j + i)) % C := by rw [← hi2, Int.toNat_natCast]
      have := mod_inj (J.place hR' hi') (J.place hR hp) h2
      obtain ⟨e1, e2⟩ := off_inj hR' hR (List.getElem?_eq_some_iff.1 hi').1 (List.getElem?_eq_some_iff.1 hp).1 this
      subst e1; subst e2
      rw [hR] at hR'; cases hR'
      rw [hp] at hi'; cases hi'
      rw [← hk] at h3
      obtain ⟨o1, o2, o3⟩ := J.okp hR hp
      rw [kp_of h3, getPc_pcB o1 (by omega)]
  · intro i p hi hp
    rcases hl i p hi hp with h | ⟨j, l, ii, hj, hR, hii, -⟩
    · exact J.stray i p hi h
    · obtain ⟨o1, o2, o3⟩ := J.okp hR hii
      obtain ⟨w, -, -, hE, -⟩ := J.recs j l hR
      have e1 := rec_epoch w hii
      have e2 := hE (by have := J.ks; omega)
      have := Jr.jlt hR
      refine ⟨by omega, fun _ => ⟨by omega, fun _ j' hj' => ?_⟩⟩
      obtain rfl : j' = j := by omega
      exact ⟨l, hR, by rw [o2]; simpa using hii⟩
  · rw [hw]; intro w h; cases h
  · intro j l i p hj hR; have := Jr.jlt hR; omega
  · intro l h
    by_cases he : epochOf l < E
    · exact .inl (by
        rcases J.stale l (J.elder hl h he) with h | h
        · exact h
        · omega)
    · exact .inr (by omega)
/-- It is opened again. -/
theorem Jr.reopen (J : Jr C st seq0 since E R k sure D) (hl : Left C st R sure D D') (hs : Stays C st R sure D') (hw : D'.wait = []) : ∃ t, sure ≤ t ∧ t ≤ R.length ∧ stands (fun i => kp D' ((st + i) % C)) C (E + 1) C 0 since seq0 = R.take t ∧ Jr C st seq0 since (E + 1) (R.take t) t t D' := by
  obtain ⟨t, -, t2, t3, t4, t5⟩ := J.finds hl hs C 0 (by omega) (by rw [off_zero]; omega)
  rw [off_zero, List.drop_zero] at t4
  have h00 : lsE R since 0 = since := rfl
  rw [h00, show seq0 + ((0 : Nat) : Int) = seq0 from by simp] at t4
  have hlt : (R.take t).length = t := by rw [List.length_take]; omega
  have hget : ∀ j, j < t → (R.take t)[j]? = R[j]? := fun j hj => List.getElem?_take_of_lt hj
  have hls : ∀ j, j ≤ t → lsE (R.take t) since j = lsE R since j := fun j hj => by
    cases j with
    | zero => rfl
    | succ j => simp only [lsE, hget j (by omega)]
  have hoff : ∀ j, j ≤ t → off (R.take t) j = off R j := fun j hj => off_take hj
  refine ⟨t, by omega, t2, t4, J.c, by have := J.sE; omega, ?_, ?_, Nat.le_refl _, by omega, ?_, ?_, ?_, ?_, ?_⟩
  · intro j l hR
    have hj := Jr.jlt hR
    rw [hlt] at hj
    rw [hget j hj] at hR
    obtain ⟨w, h1, h2, h3, h4⟩ := J.recs j l hR
    rw [hls j (by omega)]
    refine ⟨w, h1, h2, fun h => by omega, fun _ => ?_⟩
    by_cases h : k ≤ j
    · have := h3 h; omega
    · have := h4 (by omega); omega
  · rw [hlt, hoff t (by omega)]
    have := off_mono (R := R) t2
    have := J.room
    omega
  · intro j l i p hR hp hj
    have hR2 : (stands (fun i => kp D' ((st + i) % C)) C (E + 1) C 0 since seq0)[j]? = some l := by rw [t4]; exact hR
    have h1 := stands_get hR2
    rw [t4, Nat.zero_add] at h1
    rw [← hp]
    exact (recAt_some h1).2.1 i (List.getElem?_eq_some_iff.1 hp).1
  · intro i p hi hp
    have : p.epoch ≤ E := by
      rcases hl i p hi hp with h | ⟨j, l, ii, hj, hR, hii, -⟩
      · exact (J.stray i p hi h).1
      · obtain ⟨w, -, -, hE, -⟩ := J.recs j l hR
        have e1 := rec_epoch w hii
        have e2 := hE (by have := J.ks; omega)
        omega
    exact ⟨by omega, fun h => by omega⟩
  · rw [hw]; intro w h; cases h
  · intro j l i p hj hR; have := Jr.jlt hR; omega
  · intro l h
    rw [hoff t (Nat.le_refl _)] at h
    rw [hls t (Nat.le_refl _)]
    exact t5 l h
/-- A record is appended. -/
theorem Jr.append (J : Jr C st seq0 since E R k sure D) {l : List Pc} (hw : whole l = true) (hs : ∀ p ∈ l, p.seq = seq0 + R.length ∧ p.epoch = E) (hr : off R R.length + l.length ≤ C) (hk : D'.kept = D.kept) (hwt : ∀ w, w ∈ D'.wait ↔ w ∈ D.wait ∨ ∃ (i : Nat) (p : Pc), l[i]? = some p ∧ w = (pcB p, (((st + (off R R.length + i)) % C : Nat) : Int))) :
    Jr C st seq0 since E (R ++ [l]) k sure D' := by
  have hget : ∀ j, j < R.length → (R ++ [l])[j]? = R[j]? := fun j hj => List.getElem?_append_left hj
  have hlast : (R ++ [l])[R.length]? = some l := by simp
  have hof : ∀ {j l'}, R[j]? = some l' → (R ++ [l])[j]? = some l' := fun h => by rw [hget _ (Jr.jlt h)]; exact h
  have hback : ∀ {j l'}, (R ++ [l])[j]? = some l' → R[j]? = some l' ∨ (j = R.length ∧ l' = l) := fun {j l'} h => by
    by_cases hj : j < R.length
    · left; rw [← hget j hj]; exact h
    · have := Jr.jlt h
      rw [List.length_append, List.length_cons, List.length_nil] at this
      obtain rfl : j = R.length := by omega
      rw [hlast] at h
      cases h
      exact .inr ⟨rfl, rfl⟩
  have hls : ∀ j, j ≤ R.length → lsE (R ++ [l]) since j = lsE R since j := fun j hj => by
    cases j with
    | zero => rfl
    | succ j => simp only [lsE, hget j (by omega)]
  have hoff : ∀ j, j ≤ R.length → off (R ++ [l]) j = off R j := fun j hj => off_append hj
  have hkp : ∀ i, kp D' i = kp D i := fun i => by unfold kp; rw [hk]
  have hlen : (R ++ [l]).length = R.length + 1 := by simp
  obtain ⟨h0, -⟩ := goods_all hw
  have hep : epochOf l = E := by
    have hg := List.getElem?_eq_getElem h0
    rw [← rec_epoch hw hg]
    exact (hs _ (List.mem_of_getElem? hg)).2
  have htop : lsE R since R.length ≤ E := by
    cases hn : R.length with
    | zero => exact J.sE
    | succ n =>
      have hR := List.getElem?_eq_getElem (show n < R.length by omega)
      rw [lsE_succ hR]
      obtain ⟨-, -, -, h3, h4⟩ := J.recs n _ hR
      by_cases h : k ≤ n
      · have := h3 h; omega
      · have := h4 (by omega); omega
  have hks := J.ks
  have hsm := J.sm
  refine ⟨J.c, J.sE, ?_, ?_, hks, by omega, ?_, ?_, ?_, ?_, ?_⟩
  · intro j l' hR
    rcases hback hR with h | ⟨rfl, rfl⟩
    · rw [hls j (by have := Jr.jlt h; omega)]
      exact J.recs j l' h
    · rw [hls _ (Nat.le_refl _), hep]
      exact ⟨hw, fun p hp => (hs p hp).1, htop, fun _ => rfl, fun h => by omega⟩
  · rw [hlen, off_succ hlast, hoff _ (Nat.le_refl _)]
    exact hr
  · intro j l' i p hR hp hj
    rcases hback hR with h | ⟨rfl, rfl⟩
    · rw [hoff j (by have := Jr.jlt h; omega), hkp]
      exact J.kept j l' i p h hp hj
    · omega
  · intro i p hi hp
    rw [hkp] at hp
    obtain ⟨h1, h2⟩ := J.stray i p hi hp
    refine ⟨h1, fun h => ?_⟩
    obtain ⟨h3, h4⟩ := h2 h
    refine ⟨by rw [hlen]; push_cast; omega, fun h5 j hj => ?_⟩
    obtain ⟨l', h6, h7⟩ := h4 h5 j hj
    exact ⟨l', hof h6, h7⟩
  · intro w hw2
    rcases (hwt w).1 hw2 with h | ⟨i, p, hp, rfl⟩
    · obtain ⟨j, l', i, p, hj, hR, hi, rfl⟩ := J.wait w h
      refine ⟨j, l', i, p, hj, hof hR, hi, ?_⟩
      rw [hoff j (by have := Jr.jlt hR; omega)]
    · refine ⟨R.length, l, i, p, hsm, hlast, hp, ?_⟩
      rw [hoff _ (Nat.le_refl _)]
  · intro j l' i p hj hR hp
    refine (hwt _).2 ?_
    rcases hback hR with h | ⟨rfl, rfl⟩
    · rw [hoff j (by have := Jr.jlt h; omega)]
      exact .inl (J.waits j l' i p hj h hp)
    · rw [hoff _ (Nat.le_refl _)]
      exact .inr ⟨i, p, hp, rfl⟩
  · intro l' h
    rw [hoff k (by omega)] at h
    rw [hls k (by omega)]
    have hf : (fun i => kp D' ((st + i) % C)) = fun i => kp D ((st + i) % C) := funext fun i => hkp _
    rw [hf] at h
    exact J.stale l' h
theorem off_full (R : List (List Pc)) : off R R.length = (R.map List.length).sum := by unfold off; rw [List.take_length]
/-- It is cleared, behind a barrier. -/
theorem Jr.clear (J : Jr C st seq0 since E R k sure D) (hw : D.wait = []) : Jr C ((st + off R R.length) % C) (seq0 + R.length) E E [] 0 0 D := by
  have no : ∀ {j : Nat} {l : List Pc}, ([] : List (List Pc))[j]? = some l → False := fun h => by simp at h
  refine ⟨J.c, Int.le_refl _, fun j l h => (no h).elim, by simp [off], Nat.le_refl _, Nat.le_refl _, fun j l i p h => (no h).elim, ?_, ?_, fun j l i p _ h => (no h).elim, ?_⟩
  · intro i p hi hp
    obtain ⟨h1, h2⟩ := J.stray i p hi hp
    refine ⟨h1, fun h => ?_⟩
    have := (h2 h).1
    simp only [List.length_nil]
    exact ⟨by omega, fun h5 => by omega⟩
  · rw [hw]; intro w h; cases h
  · intro l h
    show epochOf l < E ∨ E ≤ epochOf l
    omega
/-- It is new. -/
theorem Jr.new {n : Nat} (hc : 0 < C) (hn : C ≤ n) (hE : since ≤ E) : Jr C st seq0 since E [] 0 0 (newD n) := by
  have no : ∀ {j : Nat} {l : List Pc}, ([] : List (List Pc))[j]? = some l → False := fun h => by simp at h
  have hkp : ∀ i, i < C → kp (newD n) i = none := fun i hi => by
    have h : (newD n).kept[i]? = some (zeros 128) := by unfold newD; rw [List.getElem?_replicate, if_pos (by omega)]
    rw [kp_of h, getPc_zeros]
  refine ⟨hc, hE, fun j l h => (no h).elim, by simp [off], Nat.le_refl _, Nat.le_refl _, fun j l i p h => (no h).elim, ?_, ?_, fun j l i p _ h => (no h).elim, ?_⟩
  · intro i p hi hp
    rw [hkp i hi] at hp; cases hp
  · intro w h; cases h
  · intro l h
    rw [recAt_no1 (f := fun i => kp (newD n) ((st + i) % C)) (hkp _ (Nat.mod_lt _ hc))] at h
    cases h
/-- What is opened, on a disk on which nothing waits. -/
theorem openT_kp {D : Dk} (hw : D.wait = []) (C st : Nat) (sq si ep : Int) : openT D 0 C st sq si ep = stands (fun i => kp D ((st + i) % C)) C ep C 0 si sq := by
  unfold openT
  congr 1
  funext i
  unfold pcAt kp readV sec lastAt
  rw [hw]
  simp only [List.reverse_nil, List.find?_nil, Nat.zero_add, Int.toNat_natCast]
/-- The journal that has these records. -/
def rgOf (C st : Nat) (sq ep : Int) (R : List (List Pc)) : Rg := ⟨0, C, (st + off R R.length) % C, off R R.length, sq + R.length, ep⟩
theorem openR_of {T : List (List Pc)} {C st : Nat} {sq si ep : Int} (h : openT D 0 C st sq si ep = T) : openR D 0 C st sq si ep = rgOf C st sq ep T := by
  unfold openR rgOf
  rw [h, off_full]
theorem rgApp_of (C st : Nat) (sq ep : Int) (R : List (List Pc)) (l : List Pc) : rgApp (rgOf C st sq ep R) l.length = rgOf C st sq ep (R ++ [l]) := by
  have h : (R ++ [l])[R.length]? = some l := by simp
  have h2 : off (R ++ [l]) (R ++ [l]).length = off R R.length + l.length := by
    rw [show (R ++ [l]).length = R.length + 1 from by simp, off_succ h, off_append (Nat.le_refl _)]
  unfold rgApp rgOf
  rw [h2]
  simp only [Rg.mk.injEq, true_and, and_true]
  refine ⟨?_, by simp; omega⟩
  rw [Nat.mod_add_mod, Nat.add_assoc]
theorem rgClear (C st : Nat) (sq ep : Int) (R : List (List Pc)) : { rgOf C st sq ep R with used := 0 } = rgOf C ((st + off R R.length) % C) (sq + R.length) ep [] := by
  unfold rgOf
  simp [off]
theorem wroteR_is {n k0 : Nat} {r : Rg} (f : Fine n D k0) (hk0 : k0 ≤ 90000) (hc : 0 < r.cnt) (hc1 : r.fro + r.cnt ≤ n) {l : List Pc} (hl : ∀ p ∈ l, okPc p = true) : ∀ k, k ≤ l.length → k ≤ 1000 → (wroteR D r l k).kept = D.kept ∧
    ∀ w, w ∈ (wroteR D r l k).wait ↔ w ∈ D.wait ∨ ∃ (i : Nat) (p : Pc), i < k ∧ l[i]? = some p ∧ w = (pcB p, ((sec r r.pos i : Nat) : Int))
  | 0, _, _ => ⟨rfl, fun w => ⟨.inl, fun h => h.elim id fun ⟨i, p, h, _⟩ => by omega⟩⟩
  | k + 1, h, h2 => by
    obtain ⟨ih1, ih2⟩ := wroteR_is f hk0 hc hc1 hl k (by omega) (by omega)
    have ff := f.wrote hk0 hc hc1 hl k (by omega) (by omega)
    have e : l[k]? = some l[k] := List.getElem?_eq_getElem (by omega)
    have hlt := sec_lt hc r.pos k
    have hok := hl _ (List.mem_of_getElem? e)
    have hsz := pcB_size (okPc_data hok)
    have hpad : pad (pcB l[k]) = pcB l[k] := by
      unfold pad
      rw [hsz]
      apply ByteArray.ext
      simp [zeros]
    rw [wroteR_succ e, ff.writeD (by omega) (show sec r r.pos k < n by omega) (Nat.le_of_eq hsz), hpad]
    refine ⟨ih1, fun w => ?_⟩
    dsimp only
    rw [List.mem_append, ih2 w, List.mem_singleton]
    constructor
    · rintro ((h | ⟨i, p, h3, h4, h5⟩) | h)
      · exact .inl h
      · exact .inr ⟨i, p, by omega, h4, h5⟩
      · exact .inr ⟨k, _, by omega, e, h⟩
    · rintro (h | ⟨i, p, h3, h4, h5⟩)
      · exact .inl (.inl h)
      · by_cases hik : i = k
        · subst hik
          rw [e] at h4; cases h4
          exact .inr h5
        · exact .inl (.inr ⟨i, p, by omega, h4, h5⟩)
theorem Fine.barrier {n k : Nat} (f : Fine n D k) (hn : 1 ≤ n) (hk : k ≤ 90000) : Fine n (barrierD D) (k + 1) ∧ (barrierD D).kept = keepK (fun _ => true) D.kept D.wait D.wait.length ∧ (barrierD D).wait = [] := by
  have hr := f.run.mono.barrier (by omega) (by have := f.run.b; omega)
  have hb : burnD D = D := by
    unfold burnD
    rw [if_neg (by rw [f.fuse]; omega)]
    have := f.fuse
    cases D
    simp only [Dk.mk.injEq, true_and, and_true]
    dsimp only at this
    omega
  have e : barrierD D = keepD (barredD D) (fun _ => true) := by
    unfold barrierD
    rw [if_pos (f.alive hn), if_neg (by rw [f.fuse]; omega)]
  refine ⟨⟨hr, ?_, ?_⟩, ?_, ?_⟩ <;> (try rw [e]) <;> (unfold keepD barredD; rw [hb])
  · exact f.dead
  · exact f.fuse
theorem Fine.crash {n k : Nat} (f : Fine n D k) (hn : 1 ≤ n) (zs : List Int) : Fine n (crashD D zs) k ∧ (crashD D zs).kept = keepK (inKeep zs) D.kept D.wait D.wait.length ∧ (crashD D zs).wait = [] := by
  have hr := f.run.crash zs
  have e : crashD D zs = { keepD D (inKeep zs) with fuse := -1, dead := false } := by
    unfold crashD
    rw [if_pos (f.run.made hn)]
  refine ⟨⟨hr, ?_, ?_⟩, ?_, ?_⟩ <;> rw [e] <;> rfl
theorem Fine.le {n k k' : Nat} (f : Fine n D k) (h : k ≤ k') : Fine n D k' := by
  obtain ⟨r, d, u⟩ := f
  exact ⟨⟨r.ok, r.len, by have := r.w; omega, by have := r.b; omega, by have := r.wl; omega, r.sk, r.sw⟩, d, u⟩

/-- What is so between two steps of the law: i steps behind. -/
structure FindI (C i : Nat) (D : Dk) (st : Nat) (sq si E : Int) (R : List (List Pc)) (sure : Nat) : Prop where
  jr : ∃ k, Jr C st sq si E R k sure D
  fine : Fine 20 D (i * 100)
  cC : C ≤ 20
  hst : st < C
  s0 : 1 ≤ sq
  s1 : sq + R.length ≤ 1 + i
  i0 : 1 ≤ si
  e1 : E ≤ 2 + i
theorem FindI.c0 {C i : Nat} {D : Dk} {st : Nat} {sq si E : Int} {R : List (List Pc)} {sure : Nat} (I : FindI C i D st sq si E R sure) : 0 < C := by obtain ⟨k, J⟩ := I.jr; exact J.c
theorem FindI.siE {C i : Nat} {D : Dk} {st : Nat} {sq si E : Int} {R : List (List Pc)} {sure : Nat} (I : FindI C i D st sq si E R sure) : si ≤ E := by obtain ⟨k, J⟩ := I.jr; exact J.sE
theorem FindI.used {C i : Nat} {D : Dk} {st : Nat} {sq si E : Int} {R : List (List Pc)} {sure : Nat} (I : FindI C i D st sq si E R sure) : off R R.length ≤ C := by obtain ⟨k, J⟩ := I.jr; exact J.room
theorem FindI.len {C i : Nat} {D : Dk} {st : Nat} {sq si E : Int} {R : List (List Pc)} {sure : Nat} (I : FindI C i D st sq si E R sure) : D.kept.length = 20 := I.fine.run.len
theorem FindI.wait {C i : Nat} {D : Dk} {st : Nat} {sq si E : Int} {R : List (List Pc)} {sure : Nat} (I : FindI C i D st sq si E R sure) : FindI C (i + 1) D st sq si E R sure :=
  ⟨I.jr, I.fine.le (by omega), I.cC, I.hst, I.s0, by have := I.s1; push_cast; omega, I.i0, by have := I.e1; push_cast; omega⟩
theorem FindI.new {C st : Nat} (hc : 0 < C) (hC : C ≤ 20) (hst : st < C) : FindI C 0 (newD 20) st 1 1 2 [] 0 :=
  ⟨⟨0, .new hc hC (by omega)⟩, Fine.new (by omega), hC, hst, by omega, by simp, by omega, by omega⟩
theorem FindI.append {C i : Nat} {D : Dk} {st : Nat} {sq si E : Int} {R : List (List Pc)} {sure : Nat} (I : FindI C i D st sq si E R sure) (hi : i ≤ 40) {s : ByteArray} (hs : s.size ≤ 1000) (hf : npc s.size ≤ C - off R R.length) :
    FindI C (i + 1) (wroteR D (rgOf C st sq E R) (cutL s E (sq + R.length)) (npc s.size)) st sq si E (R ++ [cutL s E (sq + R.length)]) sure := by
  have hc := I.c0
  have hcC := I.cC
  have hus := I.used
  have hss := I.s0
  have he1 := I.e1
  have hi0 := I.i0
  have hiE := I.siE
  have hn : nums E (sq + R.length) = true := nums_of (by omega) (by omega) (by omega)
  have hnp : npc s.size ≤ 1000 ∧ 0 < npc s.size := by unfold npc; omega
  have hok := cutL_ok s E (sq + R.length) (by omega) hn
  have hcl := cutL_len s E (sq + R.length)
  have hw := wroteR_is (r := rgOf C st sq E R) I.fine (by omega) hc (by show 0 + C ≤ 20; omega) hok (npc s.size) (by omega) hnp.1
  have hff := I.fine.wrote (r := rgOf C st sq E R) (by omega) hc (by show 0 + C ≤ 20; omega) hok (npc s.size) (by omega) hnp.1
  obtain ⟨k, J⟩ := I.jr
  refine ⟨⟨k, J.append (cutL_whole s E _ (by omega) hn) (cutL_seq s E _) (by omega) hw.1 (fun w => ?_)⟩, hff.le (by omega), hcC, I.hst, hss, by have := I.s1; rw [List.length_append, List.length_singleton]; push_cast; omega, I.i0, by push_cast; omega⟩
  rw [hw.2 w]
  refine or_congr Iff.rfl ⟨?_, ?_⟩
  · rintro ⟨i, p, -, h2, rfl⟩
    refine ⟨i, p, h2, ?_⟩
    unfold sec rgOf
    dsimp only
    rw [Nat.mod_add_mod, Nat.zero_add, Nat.add_assoc]
  · rintro ⟨i, p, h2, rfl⟩
    refine ⟨i, p, by have := (List.getElem?_eq_some_iff.1 h2).1; omega, h2, ?_⟩
    unfold sec rgOf
    dsimp only
    rw [Nat.mod_add_mod, Nat.zero_add, Nat.add_assoc]
theorem FindI.barrier {C i : Nat} {D : Dk} {st : Nat} {sq si E : Int} {R : List (List Pc)} {sure : Nat} (I : FindI C i D st sq si E R sure) (hi : i ≤ 40) : FindI C (i + 1) (barrierD D) st sq si E R R.length := by
  obtain ⟨f, hk, hw⟩ := I.fine.barrier (by omega) (by omega)
  have hl := I.len
  have h1 := I.s1
  obtain ⟨k, J⟩ := I.jr
  exact ⟨⟨k, J.barrier (by have := I.cC; omega) (by omega) hk hw⟩, f.le (by omega), I.cC, I.hst, I.s0, by push_cast; omega, I.i0, by have := I.e1; push_cast; omega⟩
theorem FindI.clear {C i : Nat} {D : Dk} {st : Nat} {sq si E : Int} {R : List (List Pc)} {sure : Nat} (I : FindI C i D st sq si E R sure) (hi : i ≤ 40) : FindI C (i + 1) (barrierD D) ((st + off R R.length) % C) (sq + R.length) E E [] 0 := by
  obtain ⟨f, hk, hw⟩ := I.fine.barrier (by omega) (by omega)
  have hl := I.len
  have h1 := I.s1
  have hi0 := I.i0
  have hiE := I.siE
  obtain ⟨k, J⟩ := I.jr
  exact ⟨⟨0, (J.barrier (by have := I.cC; omega) (by omega) hk hw).clear hw⟩, f.le (by omega), I.cC, Nat.mod_lt _ J.c, by have := I.s0; omega, by simp only [List.length_nil]; push_cast; omega, by omega, by have := I.e1; push_cast; omega⟩
theorem FindI.crash {C i : Nat} {D : Dk} {st : Nat} {sq si E : Int} {R : List (List Pc)} {sure : Nat} (I : FindI C i D st sq si E R sure) (hi : i ≤ 40) (zs : List Int) :
    ∃ t, sure ≤ t ∧ t ≤ R.length ∧ openT (crashD D zs) 0 C st sq si (E + 1) = R.take t ∧ FindI C (i + 1) (crashD D zs) st sq si (E + 1) (R.take t) t := by
  obtain ⟨f, hk, hw⟩ := I.fine.crash (by omega) zs
  have hl := I.len
  have h1 := I.s1
  obtain ⟨k, J⟩ := I.jr
  obtain ⟨t, t1, t2, t3, t4⟩ := J.reopen (J.left (by have := I.cC; omega) (by omega) _ hk) (J.stays (by have := I.cC; omega) _ hk) hw
  exact ⟨t, t1, t2, by rw [openT_kp hw]; exact t3, ⟨t, t4⟩, f.le (by omega), I.cC, I.hst, I.s0, by rw [List.length_take]; push_cast; omega, I.i0, by have := I.e1; push_cast; omega⟩
theorem FindI.again {C i : Nat} {D : Dk} {st : Nat} {sq si E : Int} {R : List (List Pc)} {sure : Nat} (I : FindI C i D st sq si E R sure) (hi : i ≤ 40) :
    ∃ t, R.length ≤ t ∧ t ≤ R.length ∧ openT (barrierD D) 0 C st sq si (E + 1) = R.take t ∧ FindI C (i + 1) (barrierD D) st sq si (E + 1) (R.take t) t := by
  obtain ⟨f, hk, hw⟩ := I.fine.barrier (by omega) (by omega)
  have hl := I.len
  have h1 := I.s1
  obtain ⟨k, J0⟩ := I.jr
  have J := J0.barrier (by have := I.cC; omega) (by omega) hk hw
  obtain ⟨t, t1, t2, t3, t4⟩ := J.reopen (fun i p _ h => .inl h) J.kept hw
  exact ⟨t, t1, t2, by rw [openT_kp hw]; exact t3, ⟨t, t4⟩, f.le (by omega), I.cC, I.hst, I.s0, by rw [List.length_take]; push_cast; omega, I.i0, by have := I.e1; push_cast; omega⟩
end
end Go.Proofs.YtmkpglabiikdeaaGreatDoor
/-
  Layer 12: the law RingFinds, walked.
-/
namespace Go.Proofs.YtmkpglabiikdeaaGreatDoor
open Go.RowKit PH
attribute [local irreducible] fld pcB pcOfB left getPc

def Pq.arr (x : Pq) : Array Value := #[.int .i64 x.kind, .string x.s, .slice x.a x.keep.length x.c]
def noPq : Pq := ⟨0, ByteArray.empty, [], none, 0⟩
theorem infoPq : (Tryz.prog.info? 57).map (·.size) = some 3 := by kernel_rfl
theorem pq_one (x : Pq) : x.arr.all (·.oneCell') = true := all_oneCell_toArray (cs := [.int .i64 x.kind, .string x.s, .slice x.a x.keep.length x.c]) (fun v hv => by
  simp at hv
  rcases hv with rfl | rfl | rfl <;> rfl)
theorem zpq2 {E w : World} {L : List HP} (x : Sat E w L) : Sat E (w.alloc (.cells #[.int .i64 0, .string ByteArray.empty, .slice none 0 0] 57)) (pt w.heap.size (.cells noPq.arr 57) :: L) := x.alloc _
theorem wpList_store_pq {E w : World} {L : List HP} {ops : Array Oper} {rest : List Oper} {op : Oper} {a : Act} {Q : Exit → Act → World → Prop} {q : Nat} {U : Pq} (S : Sat E w (pt q (.cells U.arr 57) :: L)) (V : Pq)
    (hop : op.guard = none ∧ ∃ x y : Operand, op.op = .store 57 x y ∧ a.eval x = .pointer (some ⟨q, 0, none⟩) ∧ a.eval y = .agg #[.int .i64 V.kind, .string V.s, .slice V.a V.keep.length V.c])
    (h : ∀ w', Sat E w' (pt q (.cells V.arr 57) :: L) → wpList Tryz.prog ops Q rest (a.put op.dst undef) w') : wpList Tryz.prog ops Q (op :: rest) a w :=
  by
  obtain ⟨hgd, x, y, ho, hx, hy⟩ := hop
  exact wpList_store_mid hgd 57 x y ho q 0 V.arr hx hy (pt_there S rfl) infoPq (pq_one V) (h _ (setCells_all (C := V.arr) S rfl))
theorem pq3 {E w : World} {L : List HP} {q : Nat} {p : Pq} {ty : TypeId} (x : Sat E w (pt q (.cells p.arr ty) :: L)) : w.cell? ⟨q, 0, none⟩ = some (.int .i64 p.kind) ∧ w.cell? ⟨q, 1, none⟩ = some (.string p.s) ∧ w.cell? ⟨q, 2, none⟩ = some (.slice p.a p.keep.length p.c) :=
  ⟨cell_blk x.at 0, cell_blk x.at 1, cell_blk x.at 2⟩

theorem row_sees {E w : World} {L : List HP} {a : Option Addr} {n c : Nat} {cs : List Value} (x : Sat E w (row 9 1 (.slice a n c) n cs :: L)) : Sees w a cs := fun j u hj => by
  have hl := x.rowCases.1
  obtain ⟨g, cap, e, -, -, -, hsee⟩ := x.rowSees (by have := (List.getElem?_eq_some_iff.1 hj).1; omega)
  cases e
  exact ⟨g, 0, rfl, hsee j u hj⟩
theorem wpList_appT {E w : World} {L : List HP} {v : Value} {n : Nat} {cs : List Value} {ops : Array Oper} {rest : List Oper} {o : Oper} {ac : Act} {Q : Exit → Act → World → Prop} (hgd : o.guard = none) (s p : Operand)
    (ho : o.op = .call { callee := .builtin .append, args := #[s, p], argTypes := #[43, 43] })
    (x : Sat E w (row 9 1 v n cs :: L)) (sv : ByteArray) (hs : ac.eval s = v) (hp : ac.eval p = .slice (some ⟨w.heap.size, 0, none⟩) 1 1) (hn : n ≤ 1000000)
    (h : ∀ v' w', Sat E w' (row 9 1 v' (n + 1) (cs ++ [.string sv]) :: L) → wpList Tryz.prog ops Q rest (ac.put o.dst v') w') :
    wpList Tryz.prog ops Q (o :: rest) ac (w.alloc (.cells #[.string sv] 9)) := by
  obtain ⟨i, hi, hz, hsz, hby⟩ := info_parts (P := Tryz.prog) (e := 9) (z := .string ByteArray.empty) (size := 1) (bytes := 16) (by kernel_rfl)
  obtain ⟨v', w', hr, h2, h3⟩ := (x.alloc (.cells #[.string sv] 9)).tail.append (P := Tryz.prog) 43 o.type i _ 16 Tryz.underlying43 hi hz hsz hby rfl ⟨w.heap.size, 0, none⟩ 1 1 [.string sv] rfl (cells_new w [.string sv] 9) (by simp [Value.oneCell']) (by unfold maxLen; omega) (by omega)
  refine wpList_run hgd ?_ (h v' w' h2)
  simp only [execOp, ho, resolve, invoke, builtin, Sem.run_bind, Sem.run_pure, Result.andThen_ok, List.map_toArray, List.map_cons, List.map_nil, hs, hp, hr]
theorem Sees.take {w : World} {a : Option Addr} {cs : List Value} (h : Sees w a cs) (n : Nat) : Sees w a (cs.take n) := fun j u hj => h j u (by
  rw [List.getElem?_take] at hj
  split at hj
  · exact hj
  · cases hj)

/-- It is opened again, walked. -/
theorem FindI.open {E0 W : World} {L : List HP} {b C i st t : Nat} {D : Dk} {sq si E : Int} {T : List (List Pc)} (I : FindI C i D st sq si E T t) (hi : i ≤ 41) (hE : 1 ≤ E) (hT : openT D 0 C st sq si E = T) (x : Sat E0 W (isDisk b D :: L)) :
    Calls Tryz.prog 18 #[.pointer (some ⟨b, 0, none⟩), .int .i64 0, .int .i64 C, .int .i64 st, .int .i64 sq, .int .i64 si, .int .i64 E] W fun e w' =>
      ∃ q v, e = .returned (.tuple #[.pointer (some ⟨q, 0, none⟩), v, .int .i64 0]) ∧ Sat E0 w' (isRing q b (rgOf C st sq E T) :: isDisk b D :: row 9 1 v T.length (sects (T.map joined)) :: L) := by
  have hl := I.len
  have h1 := I.s1
  have h2 := I.e1
  have h3 := I.cC
  have h := open_ok (fr := 0) (cn := C) (po := st) (sq := sq) (si := si) (ep := E) x I.fine.run.ok (I.fine.alive (by omega)) (fun j => I.fine.run.read j)
    ⟨I.c0, by omega, by omega, I.hst, I.s0, by omega, by omega, by omega, I.i0, I.siE⟩ (by rw [hT]; omega)
  rw [openR_of hT, hT] at h
  exact h
theorem FindI.appYes {E0 : World} {q b C i st sure : Nat} {D : Dk} {sq si E : Int} {R : List (List Pc)} (I : FindI C i D st sq si E R sure) (hi : i ≤ 40) {s : ByteArray} (hs : s.size ≤ 1000) (hf : npc s.size ≤ C - off R R.length) :
    ∃ l D2, joined l = s ∧ FindI C (i + 1) D2 st sq si E (R ++ [l]) sure ∧ ∀ (W : World) (L : List HP), Sat E0 W (isRing q b (rgOf C st sq E R) :: isDisk b D :: L) → Calls Tryz.prog 26 #[.pointer (some ⟨q, 0, none⟩), .string s] W fun e w' =>
      e = .returned (.int .i64 0) ∧ Sat E0 w' (isRing q b (rgOf C st sq E (R ++ [l])) :: isDisk b D2 :: L) := by
  have h1 := I.s1
  have h2 := I.e1
  have h3 := I.cC
  have h4 := I.s0
  have h5 := I.i0
  have h6 := I.siE
  have hn : nums E (sq + R.length) = true := nums_of (by omega) (by omega) (by omega)
  refine ⟨cutL s E (sq + R.length), _, joined_cut s E _ (by omega) hn, I.append hi hs hf, fun W L x => ?_⟩
  have h := append_ok x I.fine (by omega) s (by omega) hn (by show sq + R.length ≤ 4611686018427600000; omega) I.c0 (by show 0 + C ≤ 20; omega) (by omega) (Nat.mod_lt _ I.c0) I.used hf
  have e := rgApp_of C st sq E R (cutL s E (sq + R.length))
  rw [cutL_len] at e
  rw [e] at h
  exact h
theorem FindI.appNo {E0 W : World} {L : List HP} {q b C i st sure : Nat} {D : Dk} {sq si E : Int} {R : List (List Pc)} (I : FindI C i D st sq si E R sure) (hi : i ≤ 40) {s : ByteArray} (hs : s.size ≤ 1000) (hf : ¬ npc s.size ≤ C - off R R.length) (x : Sat E0 W (isRing q b (rgOf C st sq E R) :: isDisk b D :: L)) :
    Calls Tryz.prog 26 #[.pointer (some ⟨q, 0, none⟩), .string s] W fun e w' => e = .returned (.int .i64 31) ∧ Sat E0 w' (isRing q b (rgOf C st sq E R) :: isDisk b D :: L) := by
  have h1 := I.s1
  have h2 := I.e1
  have h3 := I.cC
  have h4 := I.s0
  have h5 := I.i0
  have h6 := I.siE
  have h7 := I.used
  have hn : nums E (sq + R.length) = true := nums_of (by omega) (by omega) (by omega)
  exact append_full x s (by omega) hn (by show off R R.length ≤ 1000000; omega) (by show C ≤ 1000000; omega) (by show C - off R R.length < npc s.size; omega) h7
theorem FindI.sm {C i : Nat} {D : Dk} {st : Nat} {sq si E : Int} {R : List (List Pc)} {sure : Nat} (I : FindI C i D st sq si E R sure) : sure ≤ R.length := by obtain ⟨k, J⟩ := I.jr; exact J.sm
end Go.Proofs.YtmkpglabiikdeaaGreatDoor
