/-
  posthouse/xdr: the writer's small methods, walked.
-/
import Derived.Test.YtmkpglabiikdeaaGreatDoorXdrW
namespace Go.Proofs.YtmkpglabiikdeaaGreatDoor
open Go.RowKit PH

theorem wU32_ok {E W : World} {L : List HP} {b : Nat} {l : List Nat} (x : Sat E W (isWr b l :: L)) (hl : l.length ≤ 10000000) (n : Nat) (hn : n < 4294967296) :
    Calls Tryz.prog 38 #[.pointer (some ⟨b, 0, none⟩), .int .i64 n] W fun e w' => e = .returned (.int .i64 0) ∧ Sat E w' (isWr b (l ++ numL n 4) :: L) := by
  have HX := Lib.hid x
  have hd : (n : Int) / 4294967296 = 0 := by omega
  clear x
  go_enter Tryz.func38, Tryz.ntmps38
  go_wp2_with (go_at_call 76; refine (wnumber_ok HX.out hl n 4 (by omega) (by omega)).mono ?_; rintro e w2 ⟨rfl, hx2⟩)
  go_ret
  exact ⟨rfl, hx2⟩
theorem wU64_ok {E W : World} {L : List HP} {b : Nat} {l : List Nat} (x : Sat E W (isWr b l :: L)) (hl : l.length ≤ 10000000) (n : Nat) (hn : n ≤ 9223372036854775807) :
    Calls Tryz.prog 39 #[.pointer (some ⟨b, 0, none⟩), .int .i64 n] W fun e w' => e = .returned (.int .i64 0) ∧ Sat E w' (isWr b (l ++ numL n 8) :: L) := by
  have HX := Lib.hid x
  clear x
  go_enter Tryz.func39, Tryz.ntmps39
  go_wp2_with (go_at_call 76; refine (wnumber_ok HX.out hl n 8 (by omega) (by omega)).mono ?_; rintro e w2 ⟨rfl, hx2⟩)
  go_ret
  exact ⟨rfl, hx2⟩
theorem strOfNums_bs (l : List Nat) : strOfNums (l.map fun c : Nat => (c : Int)) = bs l := by
  apply ByteArray.ext
  simp [strOfNums, bs, List.map_map, Function.comp_def]

theorem runText {E w : World} {L : List HP} {v : Value} {l : List Nat} (x : Sat E w (row 5 1 v l.length (cellsB l) :: L)) :
    (convert 72 9 v).run Tryz.prog w = .ok (.string (bs l)) w := by
  by_cases h0 : l = []
  · subst h0
    obtain ⟨_, hx⟩ := x.rowCases
    rcases hx with ⟨rfl, -, -, -⟩ | ⟨g, cap, cur, rfl, -⟩
    · exact run_convert_bytes_nil _ 72 5 Tryz.underlying72 Tryz.underlying5 0 0 9 Tryz.underlying9
    · exact run_convert_bytes_arg _ 72 5 Tryz.underlying72 Tryz.underlying5 g 0 0 cap [] rfl (fun i hi => by omega) 9 Tryz.underlying9
  · have hpos : 0 < l.length := by
      cases l with
      | nil => exact absurd rfl h0
      | cons a t => simp
    obtain ⟨g, cap, rfl, -, -, -, hsee⟩ := x.rowSees hpos
    have := run_convert_bytes_arg (P := Tryz.prog) w 72 5 Tryz.underlying72 Tryz.underlying5 g 0 l.length cap (l.map fun c : Nat => (c : Int)) (by simp) (fun i hi => by
      rw [hsee i (.int .u8 (l[i] : Int)) (by simp [cellsB, List.getElem?_eq_getElem hi])]
      simp [List.getD, List.getElem?_eq_getElem hi]) 9 Tryz.underlying9
    rwa [strOfNums_bs] at this
theorem wText_ok {E W : World} {L : List HP} {b : Nat} {l : List Nat} (x : Sat E W (isWr b l :: L)) :
    Calls Tryz.prog 43 #[.pointer (some ⟨b, 0, none⟩)] W fun e w' => e = .returned (.string (bs l)) ∧ w' = W := by
  obtain ⟨a, c, hx⟩ := wr_open x
  have c0 := cell_blk hx.at 0
  have hcv := runText hx.p1
  clear x hx
  go_enter Tryz.func43, Tryz.ntmps43
  go_wp2
  go_ret
  exact ⟨rfl, rfl⟩

/-- How many noughts fill a text up. -/
def padN (n : Nat) : Nat := (4 - n % 4) % 4
theorem padw_ok (n : Nat) (hn : n ≤ 9223372036854775807) (W : World) : Calls Tryz.prog 77 #[.int .i64 n] W fun e w' => e = .returned (.int .i64 (padN n)) ∧ w' = W := by
  by_cases h : n < 1
  · have e : padN n = 0 := by unfold padN; omega
    have HE := Lib.hid e
    clear e
    go_enter Tryz.func77, Tryz.ntmps77
    go_wp2
    go_ret
    exact ⟨by rw [HE.out]; rfl, rfl⟩
  · have hp : (4 - (n : Int) % 4) % 4 = (padN n : Int) := by unfold padN; omega
    go_enter Tryz.func77, Tryz.ntmps77
    go_wp2
    go_ret
    exact ⟨retI (by first | rfl | exact hp), rfl⟩

theorem sumNew_ok {E W : World} {L : List HP} (x : Sat E W L) : Calls Tryz.prog 84 #[] W fun e w' => ∃ b, e = .returned (.pointer (some ⟨b, 0, none⟩)) ∧ Sat E w' (isSum b 0 0 0 0 :: L) := by
  have HX := Lib.hid (x.alloc (.cells (sumC 0 0 0 0) 168))
  clear x
  go_enter Tryz.func84, Tryz.ntmps84
  go_wp2
  go_ret
  exact ⟨_, rfl, HX.out⟩

set_option maxRecDepth 100000 in
theorem sumSum_ok {E W : World} {L : List HP} {b : Nat} (x : Sat E W (isSum b 0 0 0 0 :: L)) (s : ByteArray) (hs : s.size ≤ 9223372036854775807) :
    Calls Tryz.prog 85 #[.pointer (some ⟨b, 0, none⟩), .string s] W fun e w' => e = .returned (.int .u32 (sumOf s)) ∧ Sat E w' L := by
  have c3 := cell_blk x.at 3
  have f3 := frozen_blk x.at 3
  have hx2 : Sat E (W.setCell ⟨b, 3, none⟩ (.int .i64 1)) (isSum b 0 0 1 0 :: L) := x.setCell 3 (.int .i64 1)
  have HX2 := Lib.hid hx2
  clear x hx2
  have hl : crcN s 4294967295 s.size < 4294967296 := crcN_lt (by omega) _
  have hx : bits .xor .u32 ((crcN s 4294967295 s.size : Nat) : Int) 4294967295 = ((sumOf s : Nat) : Int) := u32_xor_nat _ 4294967295 hl (by omega)
  obtain ⟨R, hR⟩ : ∃ R, crcN s 4294967295 s.size = R := ⟨_, rfl⟩
  obtain ⟨S, hS⟩ : ∃ S, sumOf s = S := ⟨_, rfl⟩
  rw [hR] at hl hx
  rw [hS] at hx ⊢
  have HR := Lib.hid hR
  clear hR hS
  go_enter Tryz.func85, Tryz.ntmps85
  go_wp2_with (first
    | (go_at_call 61; refine (add_ok c3 f3 (by omega) (by omega)).mono ?_; rintro e w' ⟨rfl, rfl⟩)
    | (go_at_call 100; refine (sumRun_ok (c := 1) (r := 4294967295) HX2.out (by omega) s hs).mono ?_; rintro e w' ⟨rfl, hx3⟩; rw [HR.out]))
  go_ret
  exact ⟨rfl, hx3.tail⟩

theorem sumOf_ok {E W : World} {L : List HP} (x : Sat E W L) (s : ByteArray) (hs : s.size ≤ 9223372036854775807) :
    Calls Tryz.prog 42 #[.string s] W fun e w' => e = .returned (.int .u32 (sumOf s)) ∧ Sat E w' L := by
  have HX := Lib.hid x
  clear x
  go_enter Tryz.func42, Tryz.ntmps42
  go_wp2_with (first
    | (go_at_call 84; refine (sumNew_ok HX.out).mono ?_; rintro e w' ⟨b, rfl, hx2⟩; have HX2 := Lib.hid hx2; clear hx2)
    | (go_at_call 85; refine (sumSum_ok HX2.out s hs).mono ?_; rintro e w' ⟨rfl, hx3⟩))
  go_ret
  exact ⟨rfl, hx3⟩

set_option maxRecDepth 100000 in
set_option maxHeartbeats 800000 in
theorem refSum_ok (s : ByteArray) (hs : s.size ≤ 9223372036854775807) (W : World) : Calls Tryz.prog 53 #[.string s] W fun e w' => e = .returned (.int .u32 (sumOf s)) ∧ w' = W := by
  have HC := Lib.hid (fun k => crcN_lt (s := s) (r := 4294967295) (by omega) k)
  have hfin : (4294967295 : Int) - ((crcN s 4294967295 s.size : Nat) : Int) = ((sumOf s : Nat) : Int) := by
    have h1 : crcN s 4294967295 s.size < 4294967296 := crcN_lt (by omega) _
    have h2 : sumOf s = 4294967295 - crcN s 4294967295 s.size := xor_ones32 h1
    rw [h2]; omega
  have HF := Lib.hid hfin
  clear hfin
  go_enter Tryz.func53, Tryz.ntmps53
  go_wp2
  go_loopw [3, 4] (fun v i wr => ∃ k : Nat, k ≤ s.size ∧ i = .int .i64 k ∧ v = .int .u32 (crcN s 4294967295 k) ∧ wr = W) (fun _ i _ => s.size - (intOf i).toNat)
  case atStart => exact ⟨0, by omega, rfl, rfl, rfl⟩
  case round =>
    obtain ⟨k, hk, rfl, rfl, hw⟩ := hrel
    subst wr
    have hR := HC.out k
    have hsucc : crcN s 4294967295 (k + 1) = cstep8 (crcN s 4294967295 k ^^^ byt s k) := rfl
    obtain ⟨R, hRe⟩ : ∃ R, crcN s 4294967295 k = R := ⟨_, rfl⟩
    rw [hRe] at hR hsucc ⊢
    have HRE := Lib.hid hRe
    have HSUCC := Lib.hid hsucc
    clear hRe hsucc
    by_cases hlt : k < s.size
    · have hb := byt_lt s k
      have hbg := byt_get s hlt
      obtain ⟨B, hB⟩ : ∃ B, byt s k = B := ⟨_, rfl⟩
      rw [hB] at hb hbg
      have HB := Lib.hid hB
      obtain ⟨X, hX⟩ : ∃ X, R ^^^ B = X := ⟨_, rfl⟩
      have hXl : X < 4294967296 := by rw [← hX]; exact xor_lt32 hR (by omega)
      have hx1 : bits .xor .u32 (R : Int) (B : Int) = (X : Int) := by rw [u32_xor_nat R B hR (by omega), hX]
      have HXX := Lib.hid hX
      clear hB hX
      have hks : (k : Int) < s.size := by omega
      go_wp2
      go_loopw [3, 5] (fun v j w1 => ∃ m : Nat, m ≤ 8 ∧ j = .int .i64 m ∧ v = .int .u32 (stepN m X) ∧ w1 = W) (fun _ j _ => 8 - (intOf j).toNat)
      case atStart => exact ⟨0, by omega, rfl, rfl, rfl⟩
      case round =>
        obtain ⟨m, hm, rfl, rfl, hw⟩ := hrel
        subst wr
        have hSl := stepN_lt hXl m
        have hst : stepN (m + 1) X = cstep (stepN m X) := rfl
        by_cases hm8 : m < 8
        · obtain ⟨Y, hY⟩ : ∃ Y, stepN m X = Y := ⟨_, rfl⟩
          rw [hY] at hSl hst ⊢
          have HST := Lib.hid hst
          clear hst hY
          by_cases h1 : Y % 2 = 1
          · have e1 : (Y : Int) % 2 = 1 := by omega
            obtain ⟨Z, hZ⟩ : ∃ Z, Y / 2 ^^^ 2197175160 = Z := ⟨_, rfl⟩
            have hx2 : bits .xor .u32 ((Y : Int) / 2) 2197175160 = (Z : Int) := by
              rw [show (Y : Int) / 2 = ((Y / 2 : Nat) : Int) by omega, ← hZ]
              exact u32_xor_nat (Y / 2) 2197175160 (by omega) (by omega)
            have hc : cstep Y = Z := by unfold cstep; rw [if_pos h1, hZ]
            have HCC := Lib.hid hc
            clear hZ hc
            go_wp2
            refine ⟨⟨m + 1, by omega, by go_num, by rw [HST.out, HCC.out], trivial⟩, by simp [intOf]; omega⟩
          · have e1 : (Y : Int) % 2 = 0 := by omega
            have hc : cstep Y = Y / 2 := by unfold cstep; rw [if_neg h1]
            have HCC := Lib.hid hc
            clear hc
            go_wp2
            refine ⟨⟨m + 1, by omega, by go_num, by rw [HST.out, HCC.out]; simp, trivial⟩, by simp [intOf]; omega⟩
        · obtain rfl : m = 8 := by omega
          have h8 : stepN 8 X = crcN s 4294967295 (k + 1) := by rw [HSUCC.out, HB.out, HXX.out]; rfl
          rw [h8]
          go_wp2
          refine ⟨⟨k + 1, by omega, by go_num, rfl, trivial⟩, by simp [intOf]; omega⟩
    · obtain rfl : k = s.size := by omega
      go_wp2
      go_ret
      exact ⟨by rw [← HF.out, HRE.out]; rfl, rfl⟩
end Go.Proofs.YtmkpglabiikdeaaGreatDoor

