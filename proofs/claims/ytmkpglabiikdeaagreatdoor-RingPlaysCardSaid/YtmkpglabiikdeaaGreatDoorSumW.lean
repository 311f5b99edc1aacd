/-
  posthouse/sum: the table is made once; a text's sum. And the document's sum, bit by bit.
-/
import Derived.Test.YtmkpglabiikdeaaGreatDoorOnce
import Derived.Test.YtmkpglabiikdeaaGreatDoorNum
namespace Go.Proofs.YtmkpglabiikdeaaGreatDoor
open Go.RowKit PH

def tab (k : Nat) : List Value := (List.range 16).map fun i => .int .u32 (if i < k then (cstep4 i : Int) else 0)
def sumC (d s c : Int) (k : Nat) : Array Value := (Value.int .u32 d :: Value.int .i32 s :: Value.int .u32 0 :: Value.int .i64 c :: tab k).toArray
def isSum (b : Nat) (d s c : Int) (k : Nat) : HP := pt b (.cells (sumC d s c k) 168)

theorem tab_get (k : Nat) {i : Nat} (h : i < 16) : (tab k)[i]? = some (.int .u32 (if i < k then (cstep4 i : Int) else 0)) := by simp [tab, h]
theorem tab_set (k : Nat) (h : k < 16) : (tab k).set k (.int .u32 (cstep4 k)) = tab (k + 1) := by
  apply List.ext_getElem?
  intro i
  rw [List.getElem?_set]
  by_cases hi : i < 16
  · rw [tab_get _ hi, tab_get _ hi]
    by_cases hk : k = i
    · subst hk
      rw [if_pos rfl, if_pos (by simp [tab]; exact h), if_pos (by omega)]
    · rw [if_neg hk]
      by_cases h1 : i < k
      · rw [if_pos h1, if_pos (by omega)]
      · rw [if_neg h1, if_neg (by omega)]
  · have e1 : (tab k)[i]? = none := List.getElem?_eq_none (by simp [tab]; omega)
    have e2 : (tab (k + 1))[i]? = none := List.getElem?_eq_none (by simp [tab]; omega)
    rw [e1, e2, if_neg (by omega)]
theorem sumC_tab (d s c : Int) (k i : Nat) (h : i < 16) : (sumC d s c k)[4 + i]? = some (.int .u32 (if i < k then (cstep4 i : Int) else 0)) := by
  show (Value.int .u32 d :: Value.int .i32 s :: Value.int .u32 0 :: Value.int .i64 c :: tab k).toArray[4 + i]? = _
  rw [List.getElem?_toArray, show 4 + i = i + 1 + 1 + 1 + 1 by omega]
  simp only [List.getElem?_cons_succ]
  exact tab_get k h
theorem sumC_set (d s c : Int) (k : Nat) (h : k < 16) : (sumC d s c k).setIfInBounds (4 + k) (.int .u32 (cstep4 k)) = sumC d s c (k + 1) := by
  unfold sumC
  rw [List.setIfInBounds_toArray, show 4 + k = k + 1 + 1 + 1 + 1 by omega]
  simp only [List.set_cons_succ]
  rw [tab_set k h]

set_option maxRecDepth 100000 in
theorem step_ok (r : Nat) (hr : r < 4294967296) (W : World) : Calls Tryz.prog 123 #[.int .u32 r] W fun e w' => e = .returned (.int .u32 (cstep r)) ∧ w' = W := by
  have ha : bits .and .u32 (r : Int) 1 = ((r % 2 : Nat) : Int) := by
    have := u32_and_nat r 1 hr (by omega)
    rw [Nat.and_one_is_mod] at this
    exact this
  have hd : (r : Int) / 2 = ((r / 2 : Nat) : Int) := by omega
  have hx : bits .xor .u32 ((r : Int) / 2) 2197175160 = ((r / 2 ^^^ 2197175160 : Nat) : Int) := by
    rw [hd]
    exact u32_xor_nat (r / 2) 2197175160 (by omega) (by omega)
  by_cases h1 : r % 2 = 1
  · have e : cstep r = r / 2 ^^^ 2197175160 := by unfold cstep; rw [if_pos h1]
    obtain ⟨X, hX⟩ : ∃ X, r / 2 ^^^ 2197175160 = X := ⟨_, rfl⟩
    rw [hX] at e hx
    have HE := Lib.hid e
    rw [h1] at ha
    clear e hX hd
    go_enter Tryz.func123, Tryz.ntmps123
    go_wp2
    go_ret
    exact ⟨by rw [HE.out]; rfl, rfl⟩
  · have h0 : r % 2 = 0 := by omega
    have e : cstep r = r / 2 := by unfold cstep; rw [if_neg h1]
    have HE := Lib.hid e
    rw [h0] at ha
    have HD := Lib.hid hd
    clear e hx hd
    go_enter Tryz.func123, Tryz.ntmps123
    go_wp2
    go_ret
    exact ⟨by rw [HE.out]; rfl, rfl⟩
def stepN : Nat → Nat → Nat
  | 0, r => r
  | k + 1, r => cstep (stepN k r)
theorem stepN_lt {r : Nat} (h : r < 4294967296) : ∀ k, stepN k r < 4294967296
  | 0 => h
  | k + 1 => cstep_lt (stepN_lt h k)
theorem stepN4 (r : Nat) : stepN 4 r = cstep4 r := rfl
theorem stepN8 (r : Nat) : stepN 8 r = cstep8 r := rfl

set_option maxRecDepth 100000 in
set_option maxHeartbeats 400000 in
theorem fill_ok {E W : World} {L : List HP} {b : Nat} {d s c : Int} (x : Sat E W (isSum b d s c 0 :: L)) : Calls Tryz.prog 111 #[.pointer (some ⟨b, 0, none⟩)] W fun e w' =>
    e = .returned (.tuple #[]) ∧ Sat E w' (isSum b d s c 16 :: L) := by
  have HX := Lib.hid x
  clear x
  go_enter Tryz.func111, Tryz.ntmps111
  go_wp2
  go_loopw [4] (fun i wr => ∃ k : Nat, k ≤ 16 ∧ i = .int .i64 k ∧ Sat E wr (isSum b d s c k :: L)) (fun i _ => 16 - (intOf i).toNat)
  case atStart => exact ⟨0, by omega, rfl, HX.out⟩
  case round =>
    obtain ⟨k, hk, rfl, hx⟩ := hrel
    by_cases hlt : k < 16
    · have HXR := Lib.hid hx
      have hk16 : (k : Int) < 16 := by omega
      clear hx
      go_wp2
      go_loopw [3, 9] (fun v j w1 => ∃ m : Nat, m ≤ 4 ∧ j = .int .i64 m ∧ v = .int .u32 (stepN m k) ∧ Sat E w1 (isSum b d s c k :: L)) (fun _ j _ => 4 - (intOf j).toNat)
      case atStart => exact ⟨0, by omega, rfl, rfl, HXR.out⟩
      case round =>
        obtain ⟨m, hm, rfl, rfl, hx⟩ := hrel
        by_cases hm4 : m < 4
        · have hst := step_ok (stepN m k) (stepN_lt (by omega) m)
          have HST := Lib.hid hst
          have HX1 := Lib.hid hx
          clear hst hx
          go_wp2_with (go_at_call 123; refine (HST.out _).mono ?_; rintro e w2 ⟨rfl, rfl⟩)
          refine ⟨⟨m + 1, by omega, by go_num, rfl, HX1.out⟩, by simp [intOf]; omega⟩
        · obtain rfl : m = 4 := by omega
          have cc := cell_blk hx.at (4 + k)
          rw [sumC_tab _ _ _ _ _ hlt] at cc
          have ff := frozen_blk hx.at (4 + k)
          have HX1 := Lib.hid hx
          clear hx
          rw [stepN4]
          go_wp2
          refine ⟨⟨k + 1, by omega, by go_num, ?_⟩, by simp [intOf]; omega⟩
          have := HX1.out.setCell (4 + k) (.int .u32 (cstep4 k))
          rw [sumC_set _ _ _ _ hlt] at this
          exact this
    · obtain rfl : k = 16 := by omega
      have HXR := Lib.hid hx
      clear hx
      go_wp2
      refine bodyPost_end (results_none rfl _ _ _) rfl ⟨rfl, HXR.out⟩
theorem bload_ok {W : World} {a : Addr} {d : Int} (hc : W.cell? a = some (.int .u32 d)) : Calls Tryz.prog 121 #[.pointer (some a)] W fun e w' => e = .returned (.bool (d != 0)) ∧ w' = W := by
  have hl := run_call_load (P := Tryz.prog) Tryz.func129 (by kernel_rfl) (by kernel_rfl) (by kernel_rfl) .u32 (by kernel_rfl) hc
  go_enter Tryz.func121, Tryz.ntmps121
  go_wp2
  go_ret
  exact ⟨rfl, rfl⟩

set_option maxRecDepth 100000 in
set_option maxHeartbeats 1600000 in
/-- '(*sync.Once).doSlow' on fill: not yet done, the lock free. -/
theorem slow_ok {E W : World} {L : List HP} {b : Nat} {c : Int} (x : Sat E W (isSum b 0 0 c 0 :: L)) :
    Calls Tryz.prog 122 #[.pointer (some ⟨b, 0, none⟩), .func (.func 111) #[.pointer (some ⟨b, 0, none⟩)] #[]] W fun e w' => e = .returned (.tuple #[]) ∧ Sat E w' (isSum b 1 0 c 16 :: L) := by
  have c1 := cell_blk x.at 1
  have f1 := frozen_blk x.at 1
  have hx1 : Sat E (W.setCell ⟨b, 1, none⟩ (.int .i32 1)) (isSum b 0 1 c 0 :: L) := x.setCell 1 (.int .i32 1)
  have HX1 := Lib.hid hx1
  clear x hx1
  have hnot : ∀ (x : Bool) (w : World), (Op.unary .not (.bool x)).run Tryz.prog w = .ok (.bool (!x)) w := fun _ _ => rfl
  go_enter_defers Tryz.func122, Tryz.ntmps122
  go_wp2_with (first
    | (go_at_call 130; refine (lock_free ⟨b, 1, none⟩ _ c1 f1).mono ?_; rintro e w' ⟨rfl, rfl⟩)
    | (go_at_call 121; refine (bload_ok (cell_blk HX1.out.at 0)).mono ?_; rintro e w' ⟨rfl, rfl⟩)
    | (go_at_call 111; refine (fill_ok HX1.out).mono ?_; rintro e w2 ⟨rfl, hx2⟩; have HX2 := Lib.hid hx2; clear hx2))
  refine leaves_cons (f := 132) (args := #[.pointer (some ⟨b, 0, none⟩), .bool true]) (by simp) (by simp [go_sem]) ?_
  refine (store_deferred ⟨b, 0, none⟩ (.int .u32 0) .returning _ (cell_blk HX2.out.at 0) (frozen_blk HX2.out.at 0)).mono ?_
  rintro e u' w3 ⟨rfl, rfl, rfl⟩
  have hx3 := HX2.out.drew.setCell 0 (.int .u32 1)
  refine leaves_cons (f := 131) (args := #[.pointer (some ⟨b, 1, none⟩)]) (by simp [settle]) (by simp [go_sem]) ?_
  refine (unlock_deferred ⟨b, 1, none⟩ _ _ (cell_blk hx3.at 1) (frozen_blk hx3.at 1)).mono ?_
  rintro e u' w4 ⟨rfl, rfl, rfl⟩
  have hx4 := hx3.setCell 1 (.int .i32 0)
  simp [Leaves, settle, results, Tryz.results122]
  exact hx4

/-- '(*sync.Once).Do' on fill, not yet done. -/
theorem onceDo_ok {E W : World} {L : List HP} {b : Nat} {c : Int} (x : Sat E W (isSum b 0 0 c 0 :: L)) :
    Calls Tryz.prog 110 #[.pointer (some ⟨b, 0, none⟩), .func (.func 111) #[.pointer (some ⟨b, 0, none⟩)] #[]] W fun e w' => e = .returned (.tuple #[]) ∧ Sat E w' (isSum b 1 0 c 16 :: L) := by
  have HX := Lib.hid x
  have c0 := cell_blk x.at 0
  clear x
  go_enter Tryz.func110, Tryz.ntmps110
  go_wp2_with (first
    | (go_at_call 121; refine (bload_ok c0).mono ?_; rintro e w' ⟨rfl, rfl⟩)
    | (go_at_call 122; refine (slow_ok HX.out).mono ?_; rintro e w2 ⟨rfl, hx2⟩))
  go_end0
  exact ⟨rfl, hx2⟩

theorem byt_get (s : ByteArray) {i : Nat} (h : i < s.size) : (s[i]).toNat = byt s i := by unfold byt; rw [dif_pos h]

set_option maxRecDepth 100000 in
set_option maxHeartbeats 1600000 in
theorem sumRun_ok {E W : World} {L : List HP} {b : Nat} {c : Int} (x : Sat E W (isSum b 0 0 c 0 :: L)) {r : Nat} (hr : r < 4294967296) (s : ByteArray) (hs : s.size ≤ 9223372036854775807) :
    Calls Tryz.prog 100 #[.pointer (some ⟨b, 0, none⟩), .int .u32 r, .string s] W fun e w' => e = .returned (.int .u32 (crcN s r s.size)) ∧ Sat E w' (isSum b 1 0 c 16 :: L) := by
  have HX := Lib.hid x
  have HR := Lib.hid (fun k => crcN_lt (s := s) hr k)
  clear x
  go_enter Tryz.func100, Tryz.ntmps100
  go_wp2_with (go_at_call 110; refine (onceDo_ok HX.out).mono ?_; rintro e w2 ⟨rfl, hx2⟩; have HX2 := Lib.hid hx2; clear hx2)
  go_loopw [1, 16] (fun v i wr => ∃ k : Nat, k ≤ s.size ∧ i = .int .i64 k ∧ v = .int .u32 (crcN s r k) ∧ Sat E wr (isSum b 1 0 c 16 :: L)) (fun _ i _ => s.size - (intOf i).toNat)
  case atStart => exact ⟨0, by omega, rfl, rfl, HX2.out⟩
  case round =>
    clear HX2
    obtain ⟨k, hk, rfl, rfl, hx⟩ := hrel
    have hR := HR.out k
    have hsucc : crcN s r (k + 1) = cstep8 (crcN s r k ^^^ byt s k) := rfl
    obtain ⟨R, hRe⟩ : ∃ R, crcN s r k = R := ⟨_, rfl⟩
    rw [hRe] at hR hsucc ⊢
    have HRE := Lib.hid hRe
    have HSUCC := Lib.hid hsucc
    clear hRe hsucc
    by_cases hlt : k < s.size
    · have hb := byt_lt s k
      have hbg := byt_get s hlt
      obtain ⟨B, hB⟩ : ∃ B, byt s k = B := ⟨_, rfl⟩
      rw [hB] at hb hbg
      have HB := Lib.hid hB
      obtain ⟨X, hX⟩ : ∃ X, R ^^^ B = X := ⟨_, rfl⟩
      have hXl : X < 4294967296 := by rw [← hX]; exact xor_lt32 hR (by omega)
      have hx1 : bits .xor .u32 (R : Int) (B : Int) = (X : Int) := by rw [u32_xor_nat R B hR (by omega), hX]
      have HXX := Lib.hid hX
      clear hB hX
      obtain ⟨Y, hY⟩ : ∃ Y, cstep4 X = Y := ⟨_, rfl⟩
      have hYl : Y < 4294967296 := by rw [← hY]; exact cstep4_lt hXl
      have hT : X / 16 ^^^ cstep4 (X % 16) = Y := by rw [← hY, cstep4_table X]
      obtain ⟨T, hTT⟩ : ∃ T, cstep4 (X % 16) = T := ⟨_, rfl⟩
      have hTl : T < 4294967296 := by rw [← hTT]; exact cstep4_lt (by omega)
      rw [hTT] at hT
      have hx2 : bits .xor .u32 ((X : Int) / 16) (T : Int) = (Y : Int) := by
        rw [show (X : Int) / 16 = ((X / 16 : Nat) : Int) by omega, u32_xor_nat (X / 16) T (by omega) hTl, hT]
      have d1 : wr.cell? ⟨b, 4 + X % 16, none⟩ = some (.int .u32 T) := by
        rw [cell_blk hx.at, sumC_tab _ _ _ _ _ (Nat.mod_lt _ (by omega)), if_pos (Nat.mod_lt _ (by omega)), hTT]
      have HY := Lib.hid hY
      clear hT hTT hTl hY
      obtain ⟨Z, hZ⟩ : ∃ Z, cstep4 Y = Z := ⟨_, rfl⟩
      have hT : Y / 16 ^^^ cstep4 (Y % 16) = Z := by rw [← hZ, cstep4_table Y]
      obtain ⟨T2, hTT⟩ : ∃ T, cstep4 (Y % 16) = T := ⟨_, rfl⟩
      have hTl : T2 < 4294967296 := by rw [← hTT]; exact cstep4_lt (by omega)
      rw [hTT] at hT
      have hx3 : bits .xor .u32 ((Y : Int) / 16) (T2 : Int) = (Z : Int) := by
        rw [show (Y : Int) / 16 = ((Y / 16 : Nat) : Int) by omega, u32_xor_nat (Y / 16) T2 (by omega) hTl, hT]
      have d2 : wr.cell? ⟨b, 4 + Y % 16, none⟩ = some (.int .u32 T2) := by
        rw [cell_blk hx.at, sumC_tab _ _ _ _ _ (Nat.mod_lt _ (by omega)), if_pos (Nat.mod_lt _ (by omega)), hTT]
      have HZ := Lib.hid hZ
      have HX3 := Lib.hid hx
      clear hT hTT hTl hZ hx
      have m1 : ((X : Int) % 16).toNat = X % 16 := by omega
      have m2 : ((Y : Int) % 16).toNat = Y % 16 := by omega
      go_wp2
      refine ⟨⟨k + 1, by omega, by go_num, ?_, HX3.out⟩, by simp [intOf]; omega⟩
      rw [HSUCC.out, HB.out, HXX.out]
      unfold cstep8
      rw [HY.out, HZ.out]
    · obtain rfl : k = s.size := by omega
      have HX3 := Lib.hid hx
      clear hx
      go_wp2
      go_ret
      exact ⟨by rw [HRE.out]; rfl, HX3.out⟩
end Go.Proofs.YtmkpglabiikdeaaGreatDoor

