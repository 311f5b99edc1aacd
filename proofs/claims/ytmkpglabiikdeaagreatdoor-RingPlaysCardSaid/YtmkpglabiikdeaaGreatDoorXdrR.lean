/-
  posthouse/xdr: the writer, walked.
-/
import Derived.Laws.IdiomStrings
import Derived.Test.YtmkpglabiikdeaaGreatDoorApp
import Derived.Test.YtmkpglabiikdeaaGreatDoorSumW
namespace Go.Proofs.YtmkpglabiikdeaaGreatDoor
open Go.RowKit PH

/-- A writer at block b that has the bytes l. -/
def isWr (b : Nat) (l : List Nat) : HP := ex fun v : Value => seps [pt b (.cells #[v] 76), row 5 1 v l.length (cellsB l)]
section
variable {E W : World} {L : List HP} {b : Nat} {l : List Nat}
theorem wr_open (x : Sat E W (isWr b l :: L)) : ∃ a c, Sat E W (pt b (.cells #[.slice a l.length c] 76) :: row 5 1 (.slice a l.length c) l.length (cellsB l) :: L) := by
  obtain ⟨v, hx⟩ := x.ex
  have hx := hx.flat
  obtain ⟨a, c, rfl, -⟩ := rowSlice hx.p1
  exact ⟨a, c, hx⟩
theorem wr_close {v : Value} (x : Sat E W (pt b (.cells #[v] 76) :: row 5 1 v l.length (cellsB l) :: L)) : Sat E W (isWr b l :: L) :=
  Sat.mkEx (A := fun v : Value => seps [pt b (.cells #[v] 76), row 5 1 v l.length (cellsB l)]) v (Sat.pack [_, _] x)
end
theorem numL_get (n : Nat) : ∀ (k j : Nat), j < k → (numL n k)[j]? = some (n / 256 ^ (k - 1 - j) % 256)
  | k + 1, 0, _ => by rw [numL, List.getElem?_cons_zero]; rfl
  | k + 1, j + 1, h => by
    rw [numL, List.getElem?_cons_succ, numL_get n k j (by omega)]
    congr 4; omega
theorem numL_take (n k j : Nat) (h : j < k) : (numL n k).take (j + 1) = (numL n k).take j ++ [n / 256 ^ (k - 1 - j) % 256] := by
  rw [List.take_add_one, numL_get n k j h]; rfl

theorem pow_256 (p : Nat) : (2 : Int) ^ (8 * p) = 256 ^ p := by
  have h : (2 : Nat) ^ (8 * p) = 256 ^ p := Nat.pow_mul 2 8 p
  have h2 := congrArg (fun x : Nat => (x : Int)) h
  rwa [Int.natCast_pow, Int.natCast_pow] at h2
theorem shr_pow (n p : Nat) : (n : Int) / 2 ^ (8 * (p : Int)).toNat = (n : Int) / 256 ^ p := by
  rw [show (8 * (p : Int)).toNat = 8 * p by omega, pow_256]
theorem wrap_u8_pow (n p : Nat) : IntKind.u8.wrap ((n : Int) / 256 ^ p) = ((n / 256 ^ p % 256 : Nat) : Int) := by
  have h : IntKind.u8.wrap ((n : Int) / 256 ^ p) = ((n : Int) / 256 ^ p) % 256 := by simp [IntKind.wrap, IntKind.bits, IntKind.signed]
  rw [h, Int.natCast_emod, Int.natCast_ediv, Int.natCast_pow]
  rfl

set_option maxRecDepth 100000 in
set_option maxHeartbeats 800000 in
theorem wnumber_ok {E W : World} {L : List HP} {b : Nat} {l : List Nat} (x : Sat E W (isWr b l :: L)) (hl : l.length ≤ 10000000) (n k : Nat) (_hn : n ≤ 9223372036854775807) (hk : k ≤ 8) :
    Calls Tryz.prog 76 #[.pointer (some ⟨b, 0, none⟩), .int .i64 n, .int .i64 k] W fun e w' => e = .returned (.tuple #[]) ∧ Sat E w' (isWr b (l ++ numL n k) :: L) := by
  have HX := Lib.hid x
  clear x
  go_enter Tryz.func76, Tryz.ntmps76
  go_wp2
  go_loopw [6] (fun i wr => ∃ j : Nat, j ≤ k ∧ i = .int .i64 ((k : Int) - 1 - j) ∧ Sat E wr (isWr b (l ++ (numL n k).take j) :: L)) (fun i _ => (intOf i + 1).toNat)
  case atStart => exact ⟨0, by omega, by simp, by simpa using HX.out⟩
  case round =>
    obtain ⟨j, hj, rfl, hx⟩ := hrel
    by_cases hlt : j < k
    · obtain ⟨p, hp⟩ : ∃ p : Nat, k - 1 - j = p := ⟨_, rfl⟩
      have hp2 : (k : Int) - 1 - (j : Int) = (p : Int) := by omega
      have hp8 : p < 8 := by omega
      obtain ⟨m, hm⟩ : ∃ m, (l ++ (numL n k).take j).length = m := ⟨_, rfl⟩
      have hm2 : m ≤ 10000008 := by rw [← hm, List.length_append, List.length_take, numL_len]; omega
      obtain ⟨B, hB⟩ : ∃ B, n / 256 ^ p % 256 = B := ⟨_, rfl⟩
      obtain ⟨a, c, hx⟩ := wr_open hx
      rw [hm] at hx
      have c0 : wr.drew.cell? ⟨b, 0, none⟩ = some (.slice a m c) := cell_blk hx.drew.at 0
      have HXR := Lib.hid hx
      have HM := Lib.hid hm
      have HB := Lib.hid hB
      have HP := Lib.hid hp
      clear hx hm hB hp
      rw [hp2]
      go_wp2
      refine wp_region_planL [(0, true), (1, true), (2, true), (3, true), (4, true), (5, true), (6, true), (7, true), (8, true), (9, false), (10, false), (11, false), (12, true), (13, true), (14, false)]
        [(11, fun w1 => w1.cell? ⟨b, 0, none⟩ = some (.slice a m c))] (by kernel_rfl) (by kernel_rfl) (by intro c a d v w h; cases d <;> exact h) ?_ ?_
      · exact ⟨c0, trivial⟩
      simp only [planOps, List.getElem?_cons_zero, List.getElem?_cons_succ]
      iterate 8 (first | ((apply plan_pure rfl; (intro w1; go_simp; try go_bits); with_reducible rfl); try simp only [Act.put, List.setIfInBounds_toArray, List.set_cons_zero, List.set_cons_succ]) | ((refine' plan_load 0 rfl (by kernel_rfl) rfl ?_ ?_; rotate_left; (intro w1 hw1; go_simp; with_reducible rfl)); try simp only [Act.put, List.setIfInBounds_toArray, List.set_cons_zero, List.set_cons_succ]))
      refine plan_pure (v := .int .i64 ((n / 256 ^ p : Nat) : Int)) rfl (fun w1 => by go_simp; exact shr_pow n p) ?_
      try simp only [Act.put, List.setIfInBounds_toArray, List.set_cons_zero, List.set_cons_succ]
      refine plan_loud rfl (fun K hK => ?_); go_simp
      rw [show IntKind.u8.wrap ((n : Int) / 256 ^ p) = (B : Int) by rw [wrap_u8_pow, HB.out]]
      refine hK _ _ ⟨c0, trivial⟩ ?_
      clear hK K
      try simp only [Act.put, List.setIfInBounds_toArray, List.set_cons_zero, List.set_cons_succ]
      refine plan_loud rfl (fun K hK => ?_); go_simp
      refine hK _ _ ⟨cell_al c0, trivial⟩ ?_
      clear hK K
      refine plan_loud rfl (fun K hK => ?_)
      refine wp_app1 _ _ 72 rfl HXR.out.drew.p1 1 (.int .u8 0) (by kernel_rfl) Tryz.underlying72 rfl rfl [.int .u8 B] rfl rfl (by simp [Value.oneCell']) (by omega) (by omega) ?_
      intro v8 w8 hx8 _
      obtain ⟨g8, cap8, rfl, -⟩ := hx8.rowSees (by omega)
      have hx8 := hx8.p1
      have c8 := cell_blk hx8.at 0
      have f8 := frozen_blk hx8.at 0
      refine hK _ _ trivial ?_
      clear hK K
      try simp only [Act.put, List.setIfInBounds_toArray, List.set_cons_zero, List.set_cons_succ]
      iterate 2 (first | ((apply plan_pure rfl; (intro w1; go_simp; try go_bits); with_reducible rfl); try simp only [Act.put, List.setIfInBounds_toArray, List.set_cons_zero, List.set_cons_succ]) | ((refine' plan_load 0 rfl (by kernel_rfl) rfl ?_ ?_; rotate_left; (intro w1 hw1; go_simp; with_reducible rfl)); try simp only [Act.put, List.setIfInBounds_toArray, List.set_cons_zero, List.set_cons_succ]))
      refine plan_loud rfl (fun K hK => ?_); go_simp
      refine hK _ _ trivial (plan_nil ?_)
      clear hK K
      go_wp2
      refine ⟨⟨j + 1, by omega, by rw [show (p : Int) - 1 = (k : Int) - 1 - ((j + 1 : Nat) : Int) by omega], ?_⟩, by simp [intOf]⟩
      have hx9 := hx8.setCell 0 (.slice (some ⟨g8, 0, none⟩) (m + 1) cap8)
      refine wr_close (v := .slice (some ⟨g8, 0, none⟩) (m + 1) cap8) ?_
      rw [numL_take n k j hlt, ← List.append_assoc, List.length_append, HM.out, cellsB_append, HP.out, HB.out]
      exact hx9
    · obtain rfl : j = k := by omega
      have HXR := Lib.hid hx
      clear hx
      have hm1 : (j : Int) - 1 - (j : Int) = -1 := by omega
      rw [hm1]
      go_wp2
      refine bodyPost_end (results_none rfl _ _ _) rfl ⟨rfl, ?_⟩
      have h := HXR.out
      rw [show (numL n j).take j = numL n j from List.take_of_length_le (by rw [numL_len]; omega)] at h
      exact h
end Go.Proofs.YtmkpglabiikdeaaGreatDoor
/-
  posthouse/xdr: the writer's small methods, walked.
-/
namespace Go.Proofs.YtmkpglabiikdeaaGreatDoor
open Go.RowKit PH

theorem wU32_ok {E W : World} {L : List HP} {b : Nat} {l : List Nat} (x : Sat E W (isWr b l :: L)) (hl : l.length ≤ 10000000) (n : Nat) (hn : n < 4294967296) :
    Calls Tryz.prog 38 #[.pointer (some ⟨b, 0, none⟩), .int .i64 n] W fun e w' => e = .returned (.int .i64 0) ∧ Sat E w' (isWr b (l ++ numL n 4) :: L) := by
  have HX := Lib.hid x
  have hd : (n : Int) / 4294967296 = 0 := by omega
  clear x
  go_enter Tryz.func38, Tryz.ntmps38
  go_wp2_with (go_at_call 76; refine (wnumber_ok HX.out hl n 4 (by omega) (by omega)).mono ?_; rintro e w2 ⟨rfl, hx2⟩)
  go_ret
  exact ⟨rfl, hx2⟩
theorem wU64_ok {E W : World} {L : List HP} {b : Nat} {l : List Nat} (x : Sat E W (isWr b l :: L)) (hl : l.length ≤ 10000000) (n : Nat) (hn : n ≤ 9223372036854775807) :
    Calls Tryz.prog 39 #[.pointer (some ⟨b, 0, none⟩), .int .i64 n] W fun e w' => e = .returned (.int .i64 0) ∧ Sat E w' (isWr b (l ++ numL n 8) :: L) := by
  have HX := Lib.hid x
  clear x
  go_enter Tryz.func39, Tryz.ntmps39
  go_wp2_with (go_at_call 76; refine (wnumber_ok HX.out hl n 8 (by omega) (by omega)).mono ?_; rintro e w2 ⟨rfl, hx2⟩)
  go_ret
  exact ⟨rfl, hx2⟩
theorem strOfNums_bs (l : List Nat) : strOfNums (l.map fun c : Nat => (c : Int)) = bs l := by
  apply ByteArray.ext
  simp [strOfNums, bs, List.map_map, Function.comp_def]

theorem runText {E w : World} {L : List HP} {v : Value} {l : List Nat} (x : Sat E w (row 5 1 v l.length (cellsB l) :: L)) :
    (convert 72 9 v).run Tryz.prog w = .ok (.string (bs l)) w := by
  by_cases h0 : l = []
  · subst h0
    obtain ⟨_, hx⟩ := x.rowCases
    rcases hx with ⟨rfl, -, -, -⟩ | ⟨g, cap, cur, rfl, -⟩
    · exact run_convert_bytes_nil _ 72 5 Tryz.underlying72 Tryz.underlying5 0 0 9 Tryz.underlying9
    · exact run_convert_bytes_arg _ 72 5 Tryz.underlying72 Tryz.underlying5 g 0 0 cap [] rfl (fun i hi => by omega) 9 Tryz.underlying9
  · have hpos : 0 < l.length := by
      cases l with
      | nil => exact absurd rfl h0
      | cons a t => simp
    obtain ⟨g, cap, rfl, -, -, -, hsee⟩ := x.rowSees hpos
    have := run_convert_bytes_arg (P := Tryz.prog) w 72 5 Tryz.underlying72 Tryz.underlying5 g 0 l.length cap (l.map fun c : Nat => (c : Int)) (by simp) (fun i hi => by
      rw [hsee i (.int .u8 (l[i] : Int)) (by simp [cellsB, List.getElem?_eq_getElem hi])]
      simp [List.getD, List.getElem?_eq_getElem hi]) 9 Tryz.underlying9
    rwa [strOfNums_bs] at this
theorem wText_ok {E W : World} {L : List HP} {b : Nat} {l : List Nat} (x : Sat E W (isWr b l :: L)) :
    Calls Tryz.prog 43 #[.pointer (some ⟨b, 0, none⟩)] W fun e w' => e = .returned (.string (bs l)) ∧ w' = W := by
  obtain ⟨a, c, hx⟩ := wr_open x
  have c0 := cell_blk hx.at 0
  have hcv := runText hx.p1
  clear x hx
  go_enter Tryz.func43, Tryz.ntmps43
  go_wp2
  go_ret
  exact ⟨rfl, rfl⟩

/-- How many noughts fill a text up. -/
def padN (n : Nat) : Nat := (4 - n % 4) % 4
theorem padw_ok (n : Nat) (hn : n ≤ 9223372036854775807) (W : World) : Calls Tryz.prog 77 #[.int .i64 n] W fun e w' => e = .returned (.int .i64 (padN n)) ∧ w' = W := by
  by_cases h : n < 1
  · have e : padN n = 0 := by unfold padN; omega
    have HE := Lib.hid e
    clear e
    go_enter Tryz.func77, Tryz.ntmps77
    go_wp2
    go_ret
    exact ⟨by rw [HE.out]; rfl, rfl⟩
  · have hp : (4 - (n : Int) % 4) % 4 = (padN n : Int) := by unfold padN; omega
    go_enter Tryz.func77, Tryz.ntmps77
    go_wp2
    go_ret
    exact ⟨retI (by first | rfl | exact hp), rfl⟩

theorem sumNew_ok {E W : World} {L : List HP} (x : Sat E W L) : Calls Tryz.prog 84 #[] W fun e w' => ∃ b, e = .returned (.pointer (some ⟨b, 0, none⟩)) ∧ Sat E w' (isSum b 0 0 0 0 :: L) := by
  have HX := Lib.hid (x.alloc (.cells (sumC 0 0 0 0) 168))
  clear x
  go_enter Tryz.func84, Tryz.ntmps84
  go_wp2
  go_ret
  exact ⟨_, rfl, HX.out⟩

set_option maxRecDepth 100000 in
theorem sumSum_ok {E W : World} {L : List HP} {b : Nat} (x : Sat E W (isSum b 0 0 0 0 :: L)) (s : ByteArray) (hs : s.size ≤ 9223372036854775807) :
    Calls Tryz.prog 85 #[.pointer (some ⟨b, 0, none⟩), .string s] W fun e w' => e = .returned (.int .u32 (sumOf s)) ∧ Sat E w' L := by
  have c3 := cell_blk x.at 3
  have f3 := frozen_blk x.at 3
  have hx2 : Sat E (W.setCell ⟨b, 3, none⟩ (.int .i64 1)) (isSum b 0 0 1 0 :: L) := x.setCell 3 (.int .i64 1)
  have HX2 := Lib.hid hx2
  clear x hx2
  have hl : crcN s 4294967295 s.size < 4294967296 := crcN_lt (by omega) _
  have hx : bits .xor .u32 ((crcN s 4294967295 s.size : Nat) : Int) 4294967295 = ((sumOf s : Nat) : Int) := u32_xor_nat _ 4294967295 hl (by omega)
  obtain ⟨R, hR⟩ : ∃ R, crcN s 4294967295 s.size = R := ⟨_, rfl⟩
  obtain ⟨S, hS⟩ : ∃ S, sumOf s = S := ⟨_, rfl⟩
  rw [hR] at hl hx
  rw [hS] at hx ⊢
  have HR := Lib.hid hR
  clear hR hS
  go_enter Tryz.func85, Tryz.ntmps85
  go_wp2_with (first
    | (go_at_call 61; refine (add_ok c3 f3 (by omega) (by omega)).mono ?_; rintro e w' ⟨rfl, rfl⟩)
    | (go_at_call 100; refine (sumRun_ok (c := 1) (r := 4294967295) HX2.out (by omega) s hs).mono ?_; rintro e w' ⟨rfl, hx3⟩; rw [HR.out]))
  go_ret
  exact ⟨rfl, hx3.tail⟩

theorem sumOf_ok {E W : World} {L : List HP} (x : Sat E W L) (s : ByteArray) (hs : s.size ≤ 9223372036854775807) :
    Calls Tryz.prog 42 #[.string s] W fun e w' => e = .returned (.int .u32 (sumOf s)) ∧ Sat E w' L := by
  have HX := Lib.hid x
  clear x
  go_enter Tryz.func42, Tryz.ntmps42
  go_wp2_with (first
    | (go_at_call 84; refine (sumNew_ok HX.out).mono ?_; rintro e w' ⟨b, rfl, hx2⟩; have HX2 := Lib.hid hx2; clear hx2)
    | (go_at_call 85; refine (sumSum_ok HX2.out s hs).mono ?_; rintro e w' ⟨rfl, hx3⟩))
  go_ret
  exact ⟨rfl, hx3⟩

set_option maxRecDepth 100000 in
set_option maxHeartbeats 800000 in
theorem refSum_ok (s : ByteArray) (hs : s.size ≤ 9223372036854775807) (W : World) : Calls Tryz.prog 53 #[.string s] W fun e w' => e = .returned (.int .u32 (sumOf s)) ∧ w' = W := by
  have HC := Lib.hid (fun k => crcN_lt (s := s) (r := 4294967295) (by omega) k)
  have hfin : (4294967295 : Int) - ((crcN s 4294967295 s.size : Nat) : Int) = ((sumOf s : Nat) : Int) := by
    have h1 : crcN s 4294967295 s.size < 4294967296 := crcN_lt (by omega) _
    have h2 : sumOf s = 4294967295 - crcN s 4294967295 s.size := xor_ones32 h1
    rw [h2]; omega
  have HF := Lib.hid hfin
  clear hfin
  go_enter Tryz.func53, Tryz.ntmps53
  go_wp2
  go_loopw [3, 4] (fun v i wr => ∃ k : Nat, k ≤ s.size ∧ i = .int .i64 k ∧ v = .int .u32 (crcN s 4294967295 k) ∧ wr = W) (fun _ i _ => s.size - (intOf i).toNat)
  case atStart => exact ⟨0, by omega, rfl, rfl, rfl⟩
  case round =>
    obtain ⟨k, hk, rfl, rfl, hw⟩ := hrel
    subst wr
    have hR := HC.out k
    have hsucc : crcN s 4294967295 (k + 1) = cstep8 (crcN s 4294967295 k ^^^ byt s k) := rfl
    obtain ⟨R, hRe⟩ : ∃ R, crcN s 4294967295 k = R := ⟨_, rfl⟩
    rw [hRe] at hR hsucc ⊢
    have HRE := Lib.hid hRe
    have HSUCC := Lib.hid hsucc
    clear hRe hsucc
    by_cases hlt : k < s.size
    · have hb := byt_lt s k
      have hbg := byt_get s hlt
      obtain ⟨B, hB⟩ : ∃ B, byt s k = B := ⟨_, rfl⟩
      rw [hB] at hb hbg
      have HB := Lib.hid hB
      obtain ⟨X, hX⟩ : ∃ X, R ^^^ B = X := ⟨_, rfl⟩
      have hXl : X < 4294967296 := by rw [← hX]; exact xor_lt32 hR (by omega)
      have hx1 : bits .xor .u32 (R : Int) (B : Int) = (X : Int) := by rw [u32_xor_nat R B hR (by omega), hX]
      have HXX := Lib.hid hX
      clear hB hX
      have hks : (k : Int) < s.size := by omega
      go_wp2
      go_loopw [3, 5] (fun v j w1 => ∃ m : Nat, m ≤ 8 ∧ j = .int .i64 m ∧ v = .int .u32 (stepN m X) ∧ w1 = W) (fun _ j _ => 8 - (intOf j).toNat)
      case atStart => exact ⟨0, by omega, rfl, rfl, rfl⟩
      case round =>
        obtain ⟨m, hm, rfl, rfl, hw⟩ := hrel
        subst wr
        have hSl := stepN_lt hXl m
        have hst : stepN (m + 1) X = cstep (stepN m X) := rfl
        by_cases hm8 : m < 8
        · obtain ⟨Y, hY⟩ : ∃ Y, stepN m X = Y := ⟨_, rfl⟩
          rw [hY] at hSl hst ⊢
          have HST := Lib.hid hst
          clear hst hY
          by_cases h1 : Y % 2 = 1
          · have e1 : (Y : Int) % 2 = 1 := by omega
            obtain ⟨Z, hZ⟩ : ∃ Z, Y / 2 ^^^ 2197175160 = Z := ⟨_, rfl⟩
            have hx2 : bits .xor .u32 ((Y : Int) / 2) 2197175160 = (Z : Int) := by
              rw [show (Y : Int) / 2 = ((Y / 2 : Nat) : Int) by omega, ← hZ]
              exact u32_xor_nat (Y / 2) 2197175160 (by omega) (by omega)
            have hc : cstep Y = Z := by unfold cstep; rw [if_pos h1, hZ]
            have HCC := Lib.hid hc
            clear hZ hc
            go_wp2
            refine ⟨⟨m + 1, by omega, by go_num, by rw [HST.out, HCC.out], trivial⟩, by simp [intOf]; omega⟩
          · have e1 : (Y : Int) % 2 = 0 := by omega
            have hc : cstep Y = Y / 2 := by unfold cstep; rw [if_neg h1]
            have HCC := Lib.hid hc
            clear hc
            go_wp2
            refine ⟨⟨m + 1, by omega, by go_num, by rw [HST.out, HCC.out]; simp, trivial⟩, by simp [intOf]; omega⟩
        · obtain rfl : m = 8 := by omega
          have h8 : stepN 8 X = crcN s 4294967295 (k + 1) := by rw [HSUCC.out, HB.out, HXX.out]; rfl
          rw [h8]
          go_wp2
          refine ⟨⟨k + 1, by omega, by go_num, rfl, trivial⟩, by simp [intOf]; omega⟩
    · obtain rfl : k = s.size := by omega
      go_wp2
      go_ret
      exact ⟨by rw [← HF.out, HRE.out]; rfl, rfl⟩
end Go.Proofs.YtmkpglabiikdeaaGreatDoor
/-
  The document's numbers in bytes; posthouse/xdr: the writer's texts; the reader.
-/
namespace Go.Proofs.YtmkpglabiikdeaaGreatDoor
open Go.RowKit PH

theorem bs_one (B : Nat) (l : List Nat) : bs [B] ++ bs l = bs (B :: l) := (bs_append [B] l).symm
theorem conv_one {w : World} (B : Nat) : (convert 72 9 (.slice (some ⟨w.heap.size, 0, none⟩) 1 1)).run Tryz.prog (w.alloc (.cells #[.int .u8 B] 5)) = .ok (.string (bs [B])) (w.alloc (.cells #[.int .u8 B] 5)) := by
  have := run_convert_bytes_arg (P := Tryz.prog) (w.alloc (.cells #[.int .u8 B] 5)) 72 5 Tryz.underlying72 Tryz.underlying5 w.heap.size 0 1 1 [(B : Int)] rfl (fun i hi => by
    obtain rfl : i = 0 := by omega
    rw [cell_blk (heap_alloc_new w _)]
    rfl) 9 Tryz.underlying9
  rw [show [(B : Int)] = [B].map (fun c : Nat => (c : Int)) from rfl, strOfNums_bs] at this
  exact this

set_option maxRecDepth 100000 in
set_option maxHeartbeats 800000 in
theorem refNum_ok {E W : World} {L : List HP} (x : Sat E W L) (n k : Nat) (hn : n ≤ 9223372036854775807) (hk : k ≤ 8) :
    Calls Tryz.prog 52 #[.int .i64 n, .int .i64 k] W fun e w' => e = .returned (.string (bs (numL n k))) ∧ Sat E w' L := by
  have HX := Lib.hid x
  clear x
  go_enter Tryz.func52, Tryz.ntmps52
  go_wp2
  go_loopw [0, 5, 6] (fun a s i wr => ∃ j : Nat, j ≤ k ∧ i = .int .i64 j ∧ a = .int .i64 ((n / 256 ^ j : Nat) : Int) ∧ s = .string (bs (numL n j)) ∧ Sat E wr L) (fun _ _ i _ => k - (intOf i).toNat)
  case atStart => exact ⟨0, by omega, rfl, by simp, rfl, HX.out⟩
  case round =>
    obtain ⟨j, hj, rfl, rfl, rfl, hx⟩ := hrel
    by_cases hlt : j < k
    · have hs : n / 256 ^ (j + 1) = n / 256 ^ j / 256 := by rw [Nat.pow_succ, Nat.div_div_eq_div_mul]
      have hcons : numL n (j + 1) = (n / 256 ^ j % 256) :: numL n j := rfl
      obtain ⟨M, hM⟩ : ∃ M, n / 256 ^ j = M := ⟨_, rfl⟩
      have hMl : M ≤ 9223372036854775807 := by rw [← hM]; exact Nat.le_trans (Nat.div_le_self _ _) hn
      rw [hM] at hs hcons ⊢
      obtain ⟨B, hB⟩ : ∃ B, M % 256 = B := ⟨_, rfl⟩
      have hBl : B < 256 := by omega
      have hB2 : (M : Int) % 256 = (B : Int) := by omega
      rw [hB] at hcons
      have hcv := conv_one (w := wr) B
      obtain ⟨l, hl⟩ : ∃ l, numL n j = l := ⟨_, rfl⟩
      rw [hl] at hcons ⊢
      have hlen : l.length ≤ 8 := by rw [← hl, numL_len]; omega
      have hsz : (bs l).size ≤ 8 := by rw [bs_size]; exact hlen
      have hsz1 : (bs [B]).size = 1 := bs_size _
      have HS := Lib.hid hs
      have HC := Lib.hid hcons
      have HX1 := Lib.hid (hx.alloc (.cells #[.int .u8 B] 5)).tail
      clear hs hcons hM hB hx hl
      go_wp2
      refine ⟨⟨j + 1, by omega, by go_num, ?_, ?_, HX1.out⟩, by simp [intOf]; omega⟩
      · rw [HS.out]; first | rfl | (congr 1; omega)
      · rw [HC.out, bs_one]
    · obtain rfl : j = k := by omega
      have HX1 := Lib.hid hx
      clear hx
      go_wp2
      go_ret
      exact ⟨rfl, HX1.out⟩
/-- A reader at block b: what is left of its text, its error. -/
def isRd (b : Nat) (s : ByteArray) (err : Int) : HP := pt b (.cells #[.string s, .int .i64 err] 139)
theorem rRead_ok {E W : World} {L : List HP} (x : Sat E W L) (s : ByteArray) : Calls Tryz.prog 47 #[.string s] W fun e w' => ∃ b, e = .returned (.pointer (some ⟨b, 0, none⟩)) ∧ Sat E w' (isRd b s 0 :: L) := by
  have HX := Lib.hid (x.alloc (.cells #[.string s, .int .i64 0] 139))
  clear x
  go_enter Tryz.func47, Tryz.ntmps47
  go_wp2
  go_ret
  exact ⟨_, rfl, HX.out⟩
theorem rErr_ok {E W : World} {L : List HP} {b : Nat} {s : ByteArray} {err : Int} (x : Sat E W (isRd b s err :: L)) : Calls Tryz.prog 51 #[.pointer (some ⟨b, 0, none⟩)] W fun e w' => e = .returned (.int .i64 err) ∧ w' = W := by
  have c1 := cell_blk x.at 1
  clear x
  go_enter Tryz.func51, Tryz.ntmps51
  go_wp2
  go_ret
  exact ⟨rfl, rfl⟩
theorem rFail_ok {E W : World} {L : List HP} {b : Nat} {s : ByteArray} {err : Int} (x : Sat E W (isRd b s err :: L)) (e2 : Int) : Calls Tryz.prog 87 #[.pointer (some ⟨b, 0, none⟩), .int .i64 e2] W fun e w' =>
    e = .returned (.tuple #[]) ∧ Sat E w' (isRd b ByteArray.empty e2 :: L) := by
  have c0 := cell_blk x.at 0
  have c1 := cell_blk x.at 1
  have f0 := frozen_blk x.at 0
  have f1 := frozen_blk x.at 1
  have HX := Lib.hid ((x.setCell 0 (.string ByteArray.empty)).setCell 1 (.int .i64 e2))
  clear x
  go_enter Tryz.func87, Tryz.ntmps87
  go_wp2
  refine bodyPost_end (results_none rfl _ _ _) rfl ⟨rfl, ?_⟩
  exact HX.out

/-- The number that the first k bytes say. -/
def numAt (s : ByteArray) : Nat → Nat
  | 0 => 0
  | k + 1 => 256 * numAt s k + byt s k
theorem numAt_lt (s : ByteArray) : ∀ k, numAt s k < 256 ^ k
  | 0 => by simp [numAt]
  | k + 1 => by
    have h1 := numAt_lt s k
    have h2 := byt_lt s k
    rw [numAt, Nat.pow_succ]
    omega
theorem numAt_val (s : ByteArray) : ∀ k, k ≤ s.size → numAt s k = valL ((lst s).take k)
  | 0, _ => by simp [numAt, valL]
  | k + 1, h => by
    rw [numAt, numAt_val s k (by omega), List.take_add_one, lst_get s (by omega)]
    exact (valL_snoc _ _).symm

/-- The bytes of a text, in a block of their own. -/
def bytesAt (g : Nat) (s : ByteArray) : HP := fun h => ∃ cap, h g = some (.cells (bytesRow s cap) 5 ((bytesRow s cap).size, (bytesRow s cap).size + 1))
theorem bytesAt_get {E w : World} {L : List HP} {g : Nat} {s : ByteArray} (x : Sat E w (bytesAt g s :: L)) {i : Nat} (h : i < s.size) : w.cell? ⟨g, i, none⟩ = some (.int .u8 (byt s i)) := by
  refine x.says fun k a f => ?_
  obtain ⟨cap, hc⟩ := a
  rw [cell_blk (f _ _ hc)]
  unfold bytesRow byt
  rw [dif_pos h]
  have hd : i < s.data.size := h
  simp only [Array.getElem?_append, Array.size_map, Array.getElem?_map]
  rw [if_pos hd, Array.getElem?_eq_getElem hd]
  rfl
theorem convBytes {E w : World} {L : List HP} (x : Sat E w L) (s : ByteArray) : ∃ g cap w', (convert 9 72 (.string s)).run Tryz.prog w = .ok (.slice (some ⟨g, 0, none⟩) s.size cap) w' ∧ Sat E w' (bytesAt g s :: L) :=
  ⟨_, _, _, run_bytes_of_string w 9 72 5 s Tryz.underlying9 Tryz.underlying72 Tryz.underlying5, (x.drew.alloc _).head fun _ h => ⟨_, h⟩⟩

set_option maxRecDepth 100000 in
set_option maxHeartbeats 800000 in
/-- number's function: the bytes of a text, on a number. -/
theorem number1_ok {E W : World} {L : List HP} {q : Nat} (s : ByteArray) (hs : s.size ≤ 8) (x : Sat E W (pt q (.cells #[.int .u64 0] 140) :: L)) :
    Calls Tryz.prog 102 #[.string s, .pointer (some ⟨q, 0, none⟩)] W fun e w' => e = .returned (.tuple #[]) ∧ Sat E w' (pt q (.cells #[.int .u64 (numAt s s.size)] 140) :: L) := by
  obtain ⟨g, cap, w1, hcv, hx1⟩ := convBytes x s
  have HX := Lib.hid hx1
  clear x hx1
  go_enter Tryz.func102, Tryz.ntmps102
  go_wp2
  clear hcv
  go_loopw [8] (fun i wr => ∃ k : Nat, k ≤ s.size ∧ i = .int .i64 k ∧ Sat E wr (bytesAt g s :: pt q (.cells #[.int .u64 (numAt s k)] 140) :: L)) (fun i _ => s.size - (intOf i).toNat)
  case atStart => exact ⟨0, by omega, rfl, HX.out⟩
  case round =>
    obtain ⟨k, hk, rfl, hx⟩ := hrel
    by_cases hlt : k < s.size
    · have c0 := bytesAt_get hx hlt
      have q0 := cell_blk hx.p1.at 0
      have fq := frozen_blk hx.p1.at 0
      have hb := byt_lt s k
      have hn := numAt_lt s k
      have hnl : numAt s k < 72057594037927936 := Nat.lt_of_lt_of_le hn (Nat.pow_le_pow_right (n := 256) (by omega) (show k ≤ 7 by omega))
      have hsucc : numAt s (k + 1) = 256 * numAt s k + byt s k := rfl
      obtain ⟨N, hN⟩ : ∃ N, numAt s k = N := ⟨_, rfl⟩
      obtain ⟨B, hB⟩ : ∃ B, byt s k = B := ⟨_, rfl⟩
      rw [hN] at hnl hsucc q0 hx
      rw [hB] at hb hsucc c0
      have HX1 := Lib.hid hx
      have HS := Lib.hid hsucc
      have hks : (k : Int) < s.size := by omega
      have hor : bits .or .u64 ((N : Int) * 256) (B : Int) = ((256 * N + B : Nat) : Int) := by
        rw [show (N : Int) * 256 = ((N * 256 : Nat) : Int) by omega, u64_or_nat (N * 256) B (by omega) (by omega)]
        have h := Nat.shiftLeft_add_eq_or_of_lt (i := 8) (b := B) hb N
        rw [Nat.shiftLeft_eq] at h
        rw [show N * 256 ||| B = N * 2 ^ 8 ||| B from rfl, ← h]
        congr 1
        omega
      clear hx hN hB hsucc hn
      go_wp2
      refine ⟨⟨k + 1, by omega, by go_num, ?_⟩, by simp [intOf]; omega⟩
      rw [HS.out]
      exact (HX1.out.p1.setCell 0 _).p1
    · obtain rfl : k = s.size := by omega
      have HX1 := Lib.hid hx
      clear hx
      go_wp2
      refine bodyPost_end (results_none rfl _ _ _) rfl ⟨rfl, HX1.out.tail⟩
theorem byt_extract (s : ByteArray) (a b i : Nat) (hb : b ≤ s.size) (h : a + i < b) : byt (s.extract a b) i = byt s (a + i) := by
  unfold byt
  have h1 : i < (s.extract a b).size := by rw [ByteArray.size_extract]; omega
  rw [dif_pos h1, dif_pos (by omega)]
  congr 1
  exact ByteArray.getElem_extract ..
theorem numAt_extract (s : ByteArray) (n : Nat) (hn : n ≤ s.size) : ∀ k, k ≤ n → numAt (s.extract 0 n) k = numAt s k
  | 0, _ => rfl
  | k + 1, h => by rw [numAt, numAt, numAt_extract s n hn k (by omega), byt_extract s 0 n k hn (by omega), Nat.zero_add]

set_option maxRecDepth 100000 in
set_option maxHeartbeats 800000 in
theorem take_no {E W : World} {L : List HP} {b : Nat} {s : ByteArray} {err : Int} (he : err ≠ 0) (x : Sat E W (isRd b s err :: L)) (n : Nat) (f : Value) :
    Calls Tryz.prog 101 #[.pointer (some ⟨b, 0, none⟩), .int .i64 n, f] W fun e w' => e = .returned (.tuple #[]) ∧ w' = W := by
  have HX := Lib.hid x
  clear x
  have hb : (err != 0) = true := by simp [he]
  go_enter Tryz.func101, Tryz.ntmps101
  go_wp2_with (go_at_call 51; refine (rErr_ok HX.out).mono ?_; rintro e w2 ⟨rfl, rfl⟩)
  refine bodyPost_ret (results_none rfl _ _ _) rfl ⟨rfl, rfl⟩
set_option maxRecDepth 100000 in
set_option maxHeartbeats 800000 in
theorem take_short {E W : World} {L : List HP} {b : Nat} {s : ByteArray} (x : Sat E W (isRd b s 0 :: L)) (n : Nat) (hn : s.size < n) (_hn2 : n ≤ 8) (f : Value) :
    Calls Tryz.prog 101 #[.pointer (some ⟨b, 0, none⟩), .int .i64 n, f] W fun e w' => e = .returned (.tuple #[]) ∧ Sat E w' (isRd b ByteArray.empty 10 :: L) := by
  have c0 := cell_blk x.at 0
  have HX := Lib.hid x
  clear x
  go_enter Tryz.func101, Tryz.ntmps101
  go_wp2_with (first
    | (go_at_call 51; refine (rErr_ok HX.out).mono ?_; rintro e w2 ⟨rfl, rfl⟩)
    | (go_at_call 87; refine (rFail_ok HX.out 10).mono ?_; rintro e w2 ⟨rfl, hx2⟩))
  refine bodyPost_ret (results_none rfl _ _ _) rfl ⟨rfl, hx2⟩
set_option maxRecDepth 100000 in
set_option maxHeartbeats 800000 in
theorem take_yes {E W : World} {L : List HP} {b q : Nat} {s : ByteArray} (x : Sat E W (isRd b s 0 :: pt q (.cells #[.int .u64 0] 140) :: L)) (n : Nat) (hn : n ≤ s.size) (hn2 : n ≤ 8) (_hs : s.size ≤ 9223372036854775807) :
    Calls Tryz.prog 101 #[.pointer (some ⟨b, 0, none⟩), .int .i64 n, .func (.func 102) #[] #[.pointer (some ⟨q, 0, none⟩)]] W fun e w' =>
      e = .returned (.tuple #[]) ∧ Sat E w' (isRd b (s.extract n s.size) 0 :: pt q (.cells #[.int .u64 (numAt s n)] 140) :: L) := by
  have c0 := cell_blk x.at 0
  have f0 := frozen_blk x.at 0
  have HX := Lib.hid x
  clear x
  have hsz : (s.extract 0 n).size = n := by rw [ByteArray.size_extract]; omega
  have HSZ := Lib.hid hsz
  clear hsz
  go_enter Tryz.func101, Tryz.ntmps101
  go_wp2_with (first
    | (go_at_call 51; refine (rErr_ok HX.out).mono ?_; rintro e w2 ⟨rfl, rfl⟩)
    | (go_at_call 102; go_loud (refine (number1_ok (s.extract 0 n) (by rw [HSZ.out]; exact hn2) (HX.out.setCell 0 (.string (s.extract n s.size))).p1).mono ?_; rintro e w3 ⟨rfl, hx3⟩)))
  refine bodyPost_end (results_none rfl _ _ _) rfl ⟨rfl, ?_⟩
  rw [HSZ.out, numAt_extract s n hn n (Nat.le_refl _)] at hx3
  exact hx3.p1
end Go.Proofs.YtmkpglabiikdeaaGreatDoor
/-
  posthouse/xdr: the reader's numbers, walked.
-/
namespace Go.Proofs.YtmkpglabiikdeaaGreatDoor
open Go.RowKit PH

/-- A reader behind a number of n bytes: its text, its error, the number. -/
def rdS (s : ByteArray) (err : Int) (n : Nat) : ByteArray := if err ≠ 0 then s else if s.size < n then ByteArray.empty else s.extract n s.size
def rdE (s : ByteArray) (err : Int) (n : Nat) : Int := if err ≠ 0 then err else if s.size < n then 10 else 0
def rdN (s : ByteArray) (err : Int) (n : Nat) : Nat := if err ≠ 0 then 0 else if s.size < n then 0 else numAt s n

set_option maxRecDepth 100000 in
set_option maxHeartbeats 800000 in
theorem rnumber_ok {E W : World} {L : List HP} {b : Nat} {s : ByteArray} {err : Int} (x : Sat E W (isRd b s err :: L)) (n : Nat) (hn : n ≤ 8) (hs : s.size ≤ 9223372036854775807) :
    Calls Tryz.prog 86 #[.pointer (some ⟨b, 0, none⟩), .int .i64 n] W fun e w' => e = .returned (.int .u64 (rdN s err n)) ∧ Sat E w' (isRd b (rdS s err n) (rdE s err n) :: L) := by
  have hx2 := (x.alloc (.cells #[.int .u64 0] 140))
  clear x
  obtain ⟨q, hq⟩ : ∃ q, W.heap.size = q := ⟨_, rfl⟩
  rw [hq] at hx2
  by_cases he : err = 0
  · subst he
    by_cases hsz : s.size < n
    · have HX := Lib.hid hx2
      have q0 := cell_blk hx2.at 0
      clear hx2
      have e1 : rdN s 0 n = 0 := by unfold rdN; rw [if_neg (by simp), if_pos hsz]
      have e2 : rdS s 0 n = ByteArray.empty := by unfold rdS; rw [if_neg (by simp), if_pos hsz]
      have e3 : rdE s 0 n = 10 := by unfold rdE; rw [if_neg (by simp), if_pos hsz]
      rw [e1, e2, e3]
      clear e1 e2 e3
      go_enter Tryz.func86, Tryz.ntmps86
      go_wp2_with (go_at_call 101; refine (take_short HX.out.p1 n hsz hn _).mono ?_; rintro e w3 ⟨rfl, hx3⟩; have q3 := cell_blk hx3.p1.at 0; have HX3 := Lib.hid hx3; clear hx3)
      go_ret
      exact ⟨rfl, HX3.out.p1.tail⟩
    · have HX := Lib.hid hx2
      have q0 := cell_blk hx2.at 0
      clear hx2
      have e1 : rdN s 0 n = numAt s n := by unfold rdN; rw [if_neg (by simp), if_neg hsz]
      have e2 : rdS s 0 n = s.extract n s.size := by unfold rdS; rw [if_neg (by simp), if_neg hsz]
      have e3 : rdE s 0 n = 0 := by unfold rdE; rw [if_neg (by simp), if_neg hsz]
      rw [e1, e2, e3]
      clear e1 e2 e3
      go_enter Tryz.func86, Tryz.ntmps86
      go_wp2_with (go_at_call 101; refine (take_yes HX.out.p1 n (by omega) hn hs).mono ?_; rintro e w3 ⟨rfl, hx3⟩; have q3 := cell_blk hx3.p1.at 0; have HX3 := Lib.hid hx3; clear hx3)
      go_ret
      exact ⟨rfl, HX3.out.p1.tail⟩
  · have HX := Lib.hid hx2
    have q0 := cell_blk hx2.at 0
    clear hx2
    have e1 : rdN s err n = 0 := by unfold rdN; rw [if_pos he]
    have e2 : rdS s err n = s := by unfold rdS; rw [if_pos he]
    have e3 : rdE s err n = err := by unfold rdE; rw [if_pos he]
    rw [e1, e2, e3]
    clear e1 e2 e3
    go_enter Tryz.func86, Tryz.ntmps86
    go_wp2_with (go_at_call 101; refine (take_no he HX.out.p1 n _).mono ?_; rintro e w3 ⟨rfl, rfl⟩)
    go_ret
    exact ⟨rfl, HX.out.tail⟩

theorem rdN_lt (s : ByteArray) (err : Int) (n : Nat) : rdN s err n < 256 ^ n := by
  have hp : 0 < 256 ^ n := Nat.pow_pos (by omega)
  unfold rdN
  split
  · exact hp
  · split
    · exact hp
    · exact numAt_lt s n
theorem rU32_ok {E W : World} {L : List HP} {b : Nat} {s : ByteArray} {err : Int} (x : Sat E W (isRd b s err :: L)) (hs : s.size ≤ 9223372036854775807) :
    Calls Tryz.prog 48 #[.pointer (some ⟨b, 0, none⟩)] W fun e w' => e = .returned (.int .i64 (rdN s err 4)) ∧ Sat E w' (isRd b (rdS s err 4) (rdE s err 4) :: L) := by
  have HX := Lib.hid x
  clear x
  have hl : rdN s err 4 < 4294967296 := rdN_lt s err 4
  obtain ⟨N, hN⟩ : ∃ N, rdN s err 4 = N := ⟨_, rfl⟩
  rw [hN] at hl ⊢
  have HN := Lib.hid hN
  clear hN
  go_enter Tryz.func48, Tryz.ntmps48
  go_wp2_with (go_at_call 86; refine (rnumber_ok HX.out 4 (by omega) hs).mono ?_; rintro e w3 ⟨rfl, hx3⟩; rw [HN.out]; have HX3 := Lib.hid hx3; clear hx3)
  go_ret
  exact ⟨rfl, HX3.out⟩

/-- The same, of eight bytes: at most so great. -/
def r8N (s : ByteArray) (err : Int) : Nat := if 9223372036854775808 ≤ rdN s err 8 then 0 else rdN s err 8
def r8S (s : ByteArray) (err : Int) : ByteArray := if 9223372036854775808 ≤ rdN s err 8 then ByteArray.empty else rdS s err 8
def r8E (s : ByteArray) (err : Int) : Int := if 9223372036854775808 ≤ rdN s err 8 then 3 else rdE s err 8
theorem rU64_ok {E W : World} {L : List HP} {b : Nat} {s : ByteArray} {err : Int} (x : Sat E W (isRd b s err :: L)) (hs : s.size ≤ 9223372036854775807) :
    Calls Tryz.prog 49 #[.pointer (some ⟨b, 0, none⟩)] W fun e w' => e = .returned (.int .i64 (r8N s err)) ∧ Sat E w' (isRd b (r8S s err) (r8E s err) :: L) := by
  have HX := Lib.hid x
  clear x
  have hl : rdN s err 8 < 18446744073709551616 := rdN_lt s err 8
  unfold r8N r8S r8E
  obtain ⟨N, hN⟩ : ∃ N, rdN s err 8 = N := ⟨_, rfl⟩
  rw [hN] at hl ⊢
  have HN := Lib.hid hN
  clear hN
  by_cases h : 9223372036854775808 ≤ N
  · rw [if_pos h, if_pos h, if_pos h]
    have hd : (N : Int) / 9223372036854775808 = 1 := by omega
    go_enter Tryz.func49, Tryz.ntmps49
    go_wp2_with (first
      | (go_at_call 86; refine (rnumber_ok HX.out 8 (by omega) hs).mono ?_; rintro e w3 ⟨rfl, hx3⟩; rw [HN.out]; have HX3 := Lib.hid hx3; clear hx3)
      | (go_at_call 87; refine (rFail_ok HX3.out 3).mono ?_; rintro e w2 ⟨rfl, hx2⟩))
    go_ret
    exact ⟨rfl, hx2⟩
  · rw [if_neg h, if_neg h, if_neg h]
    have hd : (N : Int) / 9223372036854775808 = 0 := by omega
    go_enter Tryz.func49, Tryz.ntmps49
    go_wp2_with (go_at_call 86; refine (rnumber_ok HX.out 8 (by omega) hs).mono ?_; rintro e w3 ⟨rfl, hx3⟩; rw [HN.out]; have HX3 := Lib.hid hx3; clear hx3)
    go_ret
    exact ⟨rfl, HX3.out⟩
end Go.Proofs.YtmkpglabiikdeaaGreatDoor
