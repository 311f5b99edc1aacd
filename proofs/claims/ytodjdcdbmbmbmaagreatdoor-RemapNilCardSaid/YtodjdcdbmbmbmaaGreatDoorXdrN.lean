/-
  The document's numbers in bytes; posthouse/xdr: the writer's texts; the reader.
-/
import Derived.Laws.IdiomStrings
import Derived.Test.YtodjdcdbmbmbmaaGreatDoorXdrT
namespace Go.Proofs.YtodjdcdbmbmbmaaGreatDoor
open Go.RowKit PH

theorem bs_one (B : Nat) (l : List Nat) : bs [B] ++ bs l = bs (B :: l) := (bs_append [B] l).symm
theorem conv_one {w : World} (B : Nat) : (convert 58 9 (.slice (some ⟨w.heap.size, 0, none⟩) 1 1)).run Tryz.prog (w.alloc (.cells #[.int .u8 B] 5)) = .ok (.string (bs [B])) (w.alloc (.cells #[.int .u8 B] 5)) := by
  have := run_convert_bytes_arg (P := Tryz.prog) (w.alloc (.cells #[.int .u8 B] 5)) 58 5 Tryz.underlying58 Tryz.underlying5 w.heap.size 0 1 1 [(B : Int)] rfl (fun i hi => by
    obtain rfl : i = 0 := by omega
    rw [cell_blk (heap_alloc_new w _)]
    rfl) 9 Tryz.underlying9
  rw [show [(B : Int)] = [B].map (fun c : Nat => (c : Int)) from rfl, strOfNums_bs] at this
  exact this

set_option maxRecDepth 100000 in
set_option maxHeartbeats 800000 in
theorem refNum_ok {E W : World} {L : List HP} (x : Sat E W L) (n k : Nat) (hn : n ≤ 9223372036854775807) (hk : k ≤ 8) :
    Calls Tryz.prog 24 #[.int .i64 n, .int .i64 k] W fun e w' => e = .returned (.string (bs (numL n k))) ∧ Sat E w' L := by
  have HX := Lib.hid x
  clear x
  go_enter Tryz.func24, Tryz.ntmps24
  go_wp2
  go_loopw [0, 5, 6] (fun a s i wr => ∃ j : Nat, j ≤ k ∧ i = .int .i64 j ∧ a = .int .i64 ((n / 256 ^ j : Nat) : Int) ∧ s = .string (bs (numL n j)) ∧ Sat E wr L) (fun _ _ i _ => k - (intOf i).toNat)
  case atStart => exact ⟨0, by omega, rfl, by simp, rfl, HX.out⟩
  case round =>
    obtain ⟨j, hj, rfl, rfl, rfl, hx⟩ := hrel
    by_cases hlt : j < k
    · have hs : n / 256 ^ (j + 1) = n / 256 ^ j / 256 := by rw [Nat.pow_succ, Nat.div_div_eq_div_mul]
      have hcons : numL n (j + 1) = (n / 256 ^ j % 256) :: numL n j := rfl
      obtain ⟨M, hM⟩ : ∃ M, n / 256 ^ j = M := ⟨_, rfl⟩
      have hMl : M ≤ 9223372036854775807 := by rw [← hM]; exact Nat.le_trans (Nat.div_le_self _ _) hn
      rw [hM] at hs hcons ⊢
      obtain ⟨B, hB⟩ : ∃ B, M % 256 = B := ⟨_, rfl⟩
      have hBl : B < 256 := by omega
      have hB2 : (M : Int) % 256 = (B : Int) := by omega
      rw [hB] at hcons
      have hcv := conv_one (w := wr) B
      obtain ⟨l, hl⟩ : ∃ l, numL n j = l := ⟨_, rfl⟩
      rw [hl] at hcons ⊢
      have hlen : l.length ≤ 8 := by rw [← hl, numL_len]; omega
      have hsz : (bs l).size ≤ 8 := by rw [bs_size]; exact hlen
      have hsz1 : (bs [B]).size = 1 := bs_size _
      have HS := Lib.hid hs
      have HC := Lib.hid hcons
      have HX1 := Lib.hid (hx.alloc (.cells #[.int .u8 B] 5)).tail
      clear hs hcons hM hB hx hl
      go_wp2
      refine ⟨⟨j + 1, by omega, by go_num, ?_, ?_, HX1.out⟩, by simp [intOf]; omega⟩
      · rw [HS.out]; first | rfl | (congr 1; omega)
      · rw [HC.out, bs_one]
    · obtain rfl : j = k := by omega
      have HX1 := Lib.hid hx
      clear hx
      go_wp2
      go_ret
      exact ⟨rfl, HX1.out⟩
/-- A reader at block b: what is left of its text, its error. -/
def isRd (b : Nat) (s : ByteArray) (err : Int) : HP := pt b (.cells #[.string s, .int .i64 err] 172)
theorem rRead_ok {E W : World} {L : List HP} (x : Sat E W L) (s : ByteArray) : Calls Tryz.prog 34 #[.string s] W fun e w' => ∃ b, e = .returned (.pointer (some ⟨b, 0, none⟩)) ∧ Sat E w' (isRd b s 0 :: L) := by
  have HX := Lib.hid (x.alloc (.cells #[.string s, .int .i64 0] 172))
  clear x
  go_enter Tryz.func34, Tryz.ntmps34
  go_wp2
  go_ret
  exact ⟨_, rfl, HX.out⟩
theorem rErr_ok {E W : World} {L : List HP} {b : Nat} {s : ByteArray} {err : Int} (x : Sat E W (isRd b s err :: L)) : Calls Tryz.prog 75 #[.pointer (some ⟨b, 0, none⟩)] W fun e w' => e = .returned (.int .i64 err) ∧ w' = W := by
  have c1 := cell_blk x.at 1
  clear x
  go_enter Tryz.func75, Tryz.ntmps75
  go_wp2
  go_ret
  exact ⟨rfl, rfl⟩
theorem rFail_ok {E W : World} {L : List HP} {b : Nat} {s : ByteArray} {err : Int} (x : Sat E W (isRd b s err :: L)) (e2 : Int) : Calls Tryz.prog 71 #[.pointer (some ⟨b, 0, none⟩), .int .i64 e2] W fun e w' =>
    e = .returned (.tuple #[]) ∧ Sat E w' (isRd b ByteArray.empty e2 :: L) := by
  have c0 := cell_blk x.at 0
  have c1 := cell_blk x.at 1
  have f0 := frozen_blk x.at 0
  have f1 := frozen_blk x.at 1
  have HX := Lib.hid ((x.setCell 0 (.string ByteArray.empty)).setCell 1 (.int .i64 e2))
  clear x
  go_enter Tryz.func71, Tryz.ntmps71
  go_wp2
  refine bodyPost_end (results_none rfl _ _ _) rfl ⟨rfl, ?_⟩
  exact HX.out

/-- The number that the first k bytes say. -/
def numAt (s : ByteArray) : Nat → Nat
  | 0 => 0
  | k + 1 => 256 * numAt s k + byt s k
theorem numAt_lt (s : ByteArray) : ∀ k, numAt s k < 256 ^ k
  | 0 => by simp [numAt]
  | k + 1 => by
    have h1 := numAt_lt s k
    have h2 := byt_lt s k
    rw [numAt, Nat.pow_succ]
    omega
theorem numAt_val (s : ByteArray) : ∀ k, k ≤ s.size → numAt s k = valL ((lst s).take k)
  | 0, _ => by simp [numAt, valL]
  | k + 1, h => by
    rw [numAt, numAt_val s k (by omega), List.take_add_one, lst_get s (by omega)]
    exact (valL_snoc _ _).symm

/-- The bytes of a text, in a block of their own. -/
def bytesAt (g : Nat) (s : ByteArray) : HP := fun h => ∃ cap, h g = some (.cells (bytesRow s cap) 5 ((bytesRow s cap).size, (bytesRow s cap).size + 1))
theorem bytesAt_get {E w : World} {L : List HP} {g : Nat} {s : ByteArray} (x : Sat E w (bytesAt g s :: L)) {i : Nat} (h : i < s.size) : w.cell? ⟨g, i, none⟩ = some (.int .u8 (byt s i)) := by
  refine x.says fun k a f => ?_
  obtain ⟨cap, hc⟩ := a
  rw [cell_blk (f _ _ hc)]
  unfold bytesRow byt
  rw [dif_pos h]
  have hd : i < s.data.size := h
  simp only [Array.getElem?_append, Array.size_map, Array.getElem?_map]
  rw [if_pos hd, Array.getElem?_eq_getElem hd]
  rfl
theorem convBytes {E w : World} {L : List HP} (x : Sat E w L) (s : ByteArray) : ∃ g cap w', (convert 9 58 (.string s)).run Tryz.prog w = .ok (.slice (some ⟨g, 0, none⟩) s.size cap) w' ∧ Sat E w' (bytesAt g s :: L) :=
  ⟨_, _, _, run_bytes_of_string w 9 58 5 s Tryz.underlying9 Tryz.underlying58 Tryz.underlying5, (x.drew.alloc _).head fun _ h => ⟨_, h⟩⟩

set_option maxRecDepth 100000 in
set_option maxHeartbeats 800000 in
/-- number's function: the bytes of a text, on a number. -/
theorem number1_ok {E W : World} {L : List HP} {q : Nat} (s : ByteArray) (hs : s.size ≤ 8) (x : Sat E W (pt q (.cells #[.int .u64 0] 173) :: L)) :
    Calls Tryz.prog 146 #[.string s, .pointer (some ⟨q, 0, none⟩)] W fun e w' => e = .returned (.tuple #[]) ∧ Sat E w' (pt q (.cells #[.int .u64 (numAt s s.size)] 173) :: L) := by
  obtain ⟨g, cap, w1, hcv, hx1⟩ := convBytes x s
  have HX := Lib.hid hx1
  clear x hx1
  go_enter Tryz.func146, Tryz.ntmps146
  go_wp2
  clear hcv
  go_loopw [8] (fun i wr => ∃ k : Nat, k ≤ s.size ∧ i = .int .i64 k ∧ Sat E wr (bytesAt g s :: pt q (.cells #[.int .u64 (numAt s k)] 173) :: L)) (fun i _ => s.size - (intOf i).toNat)
  case atStart => exact ⟨0, by omega, rfl, HX.out⟩
  case round =>
    obtain ⟨k, hk, rfl, hx⟩ := hrel
    by_cases hlt : k < s.size
    · have c0 := bytesAt_get hx hlt
      have q0 := cell_blk hx.p1.at 0
      have fq := frozen_blk hx.p1.at 0
      have hb := byt_lt s k
      have hn := numAt_lt s k
      have hnl : numAt s k < 72057594037927936 := Nat.lt_of_lt_of_le hn (Nat.pow_le_pow_right (n := 256) (by omega) (show k ≤ 7 by omega))
      have hsucc : numAt s (k + 1) = 256 * numAt s k + byt s k := rfl
      obtain ⟨N, hN⟩ : ∃ N, numAt s k = N := ⟨_, rfl⟩
      obtain ⟨B, hB⟩ : ∃ B, byt s k = B := ⟨_, rfl⟩
      rw [hN] at hnl hsucc q0 hx
      rw [hB] at hb hsucc c0
      have HX1 := Lib.hid hx
      have HS := Lib.hid hsucc
      have hks : (k : Int) < s.size := by omega
      have hor : bits .or .u64 ((N : Int) * 256) (B : Int) = ((256 * N + B : Nat) : Int) := by
        rw [show (N : Int) * 256 = ((N * 256 : Nat) : Int) by omega, u64_or_nat (N * 256) B (by omega) (by omega)]
        have h := Nat.shiftLeft_add_eq_or_of_lt (i := 8) (b := B) hb N
        rw [Nat.shiftLeft_eq] at h
        rw [show N * 256 ||| B = N * 2 ^ 8 ||| B from rfl, ← h]
        congr 1
        omega
      clear hx hN hB hsucc hn
      go_wp2
      refine ⟨⟨k + 1, by omega, by go_num, ?_⟩, by simp [intOf]; omega⟩
      rw [HS.out]
      exact (HX1.out.p1.setCell 0 _).p1
    · obtain rfl : k = s.size := by omega
      have HX1 := Lib.hid hx
      clear hx
      go_wp2
      refine bodyPost_end (results_none rfl _ _ _) rfl ⟨rfl, HX1.out.tail⟩
theorem byt_extract (s : ByteArray) (a b i : Nat) (hb : b ≤ s.size) (h : a + i < b) : byt (s.extract a b) i = byt s (a + i) := by
  unfold byt
  have h1 : i < (s.extract a b).size := by rw [ByteArray.size_extract]; omega
  rw [dif_pos h1, dif_pos (by omega)]
  congr 1
  exact ByteArray.getElem_extract ..
theorem numAt_extract (s : ByteArray) (n : Nat) (hn : n ≤ s.size) : ∀ k, k ≤ n → numAt (s.extract 0 n) k = numAt s k
  | 0, _ => rfl
  | k + 1, h => by rw [numAt, numAt, numAt_extract s n hn k (by omega), byt_extract s 0 n k hn (by omega), Nat.zero_add]

set_option maxRecDepth 100000 in
set_option maxHeartbeats 800000 in
theorem take_no {E W : World} {L : List HP} {b : Nat} {s : ByteArray} {err : Int} (he : err ≠ 0) (x : Sat E W (isRd b s err :: L)) (n : Nat) (f : Value) :
    Calls Tryz.prog 145 #[.pointer (some ⟨b, 0, none⟩), .int .i64 n, f] W fun e w' => e = .returned (.tuple #[]) ∧ w' = W := by
  have HX := Lib.hid x
  clear x
  have hb : (err != 0) = true := by simp [he]
  go_enter Tryz.func145, Tryz.ntmps145
  go_wp2_with (go_at_call 75; refine (rErr_ok HX.out).mono ?_; rintro e w2 ⟨rfl, rfl⟩)
  refine bodyPost_ret (results_none rfl _ _ _) rfl ⟨rfl, rfl⟩
set_option maxRecDepth 100000 in
set_option maxHeartbeats 800000 in
theorem take_short {E W : World} {L : List HP} {b : Nat} {s : ByteArray} (x : Sat E W (isRd b s 0 :: L)) (n : Nat) (hn : s.size < n) (_hn2 : n ≤ 8) (f : Value) :
    Calls Tryz.prog 145 #[.pointer (some ⟨b, 0, none⟩), .int .i64 n, f] W fun e w' => e = .returned (.tuple #[]) ∧ Sat E w' (isRd b ByteArray.empty 10 :: L) := by
  have c0 := cell_blk x.at 0
  have HX := Lib.hid x
  clear x
  go_enter Tryz.func145, Tryz.ntmps145
  go_wp2_with (first
    | (go_at_call 75; refine (rErr_ok HX.out).mono ?_; rintro e w2 ⟨rfl, rfl⟩)
    | (go_at_call 71; refine (rFail_ok HX.out 10).mono ?_; rintro e w2 ⟨rfl, hx2⟩))
  refine bodyPost_ret (results_none rfl _ _ _) rfl ⟨rfl, hx2⟩
set_option maxRecDepth 100000 in
set_option maxHeartbeats 800000 in
theorem take_yes {E W : World} {L : List HP} {b q : Nat} {s : ByteArray} (x : Sat E W (isRd b s 0 :: pt q (.cells #[.int .u64 0] 173) :: L)) (n : Nat) (hn : n ≤ s.size) (hn2 : n ≤ 8) (_hs : s.size ≤ 9223372036854775807) :
    Calls Tryz.prog 145 #[.pointer (some ⟨b, 0, none⟩), .int .i64 n, .func (.func 146) #[] #[.pointer (some ⟨q, 0, none⟩)]] W fun e w' =>
      e = .returned (.tuple #[]) ∧ Sat E w' (isRd b (s.extract n s.size) 0 :: pt q (.cells #[.int .u64 (numAt s n)] 173) :: L) := by
  have c0 := cell_blk x.at 0
  have f0 := frozen_blk x.at 0
  have HX := Lib.hid x
  clear x
  have hsz : (s.extract 0 n).size = n := by rw [ByteArray.size_extract]; omega
  have HSZ := Lib.hid hsz
  clear hsz
  go_enter Tryz.func145, Tryz.ntmps145
  go_wp2_with (first
    | (go_at_call 75; refine (rErr_ok HX.out).mono ?_; rintro e w2 ⟨rfl, rfl⟩)
    | (go_at_call 146; go_loud (refine (number1_ok (s.extract 0 n) (by rw [HSZ.out]; exact hn2) (HX.out.setCell 0 (.string (s.extract n s.size))).p1).mono ?_; rintro e w3 ⟨rfl, hx3⟩)))
  refine bodyPost_end (results_none rfl _ _ _) rfl ⟨rfl, ?_⟩
  rw [HSZ.out, numAt_extract s n hn n (Nat.le_refl _)] at hx3
  exact hx3.p1
end Go.Proofs.YtodjdcdbmbmbmaaGreatDoor
