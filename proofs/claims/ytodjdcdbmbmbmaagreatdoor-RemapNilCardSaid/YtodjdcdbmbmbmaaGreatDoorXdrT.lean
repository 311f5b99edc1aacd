/-
  posthouse/xdr: the writer's small methods, walked.
-/
import Derived.Test.YtodjdcdbmbmbmaaGreatDoorXdrW
namespace Go.Proofs.YtodjdcdbmbmbmaaGreatDoor
open Go.RowKit PH

theorem wU32_ok {E W : World} {L : List HP} {b : Nat} {l : List Nat} (x : Sat E W (isWr b l :: L)) (hl : l.length ≤ 10000000) (n : Nat) (hn : n < 4294967296) :
    Calls Tryz.prog 72 #[.pointer (some ⟨b, 0, none⟩), .int .i64 n] W fun e w' => e = .returned (.int .i64 0) ∧ Sat E w' (isWr b (l ++ numL n 4) :: L) := by
  have HX := Lib.hid x
  have hd : (n : Int) / 4294967296 = 0 := by omega
  clear x
  go_enter Tryz.func72, Tryz.ntmps72
  go_wp2_with (go_at_call 147; refine (wnumber_ok HX.out hl n 4 (by omega) (by omega)).mono ?_; rintro e w2 ⟨rfl, hx2⟩)
  go_ret
  exact ⟨rfl, hx2⟩
theorem wU64_ok {E W : World} {L : List HP} {b : Nat} {l : List Nat} (x : Sat E W (isWr b l :: L)) (hl : l.length ≤ 10000000) (n : Nat) (hn : n ≤ 9223372036854775807) :
    Calls Tryz.prog 73 #[.pointer (some ⟨b, 0, none⟩), .int .i64 n] W fun e w' => e = .returned (.int .i64 0) ∧ Sat E w' (isWr b (l ++ numL n 8) :: L) := by
  have HX := Lib.hid x
  clear x
  go_enter Tryz.func73, Tryz.ntmps73
  go_wp2_with (go_at_call 147; refine (wnumber_ok HX.out hl n 8 (by omega) (by omega)).mono ?_; rintro e w2 ⟨rfl, hx2⟩)
  go_ret
  exact ⟨rfl, hx2⟩
theorem wLen_ok {E W : World} {L : List HP} {b : Nat} {l : List Nat} (x : Sat E W (isWr b l :: L)) :
    Calls Tryz.prog 205 #[.pointer (some ⟨b, 0, none⟩)] W fun e w' => e = .returned (.int .i64 l.length) ∧ w' = W := by
  obtain ⟨a, c, hx⟩ := wr_open x
  have c0 := cell_blk hx.at 0
  clear x hx
  go_enter Tryz.func205, Tryz.ntmps205
  go_wp2
  go_ret
  exact ⟨rfl, rfl⟩
theorem strOfNums_bs (l : List Nat) : strOfNums (l.map fun c : Nat => (c : Int)) = bs l := by
  apply ByteArray.ext
  simp [strOfNums, bs, List.map_map, Function.comp_def]

theorem runText {E w : World} {L : List HP} {v : Value} {l : List Nat} (x : Sat E w (row 5 1 v l.length (cellsB l) :: L)) :
    (convert 58 9 v).run Tryz.prog w = .ok (.string (bs l)) w := by
  by_cases h0 : l = []
  · subst h0
    obtain ⟨_, hx⟩ := x.rowCases
    rcases hx with ⟨rfl, -, -, -⟩ | ⟨g, cap, cur, rfl, -⟩
    · exact run_convert_bytes_nil _ 58 5 Tryz.underlying58 Tryz.underlying5 0 0 9 Tryz.underlying9
    · exact run_convert_bytes_arg _ 58 5 Tryz.underlying58 Tryz.underlying5 g 0 0 cap [] rfl (fun i hi => by omega) 9 Tryz.underlying9
  · have hpos : 0 < l.length := by
      cases l with
      | nil => exact absurd rfl h0
      | cons a t => simp
    obtain ⟨g, cap, rfl, -, -, -, hsee⟩ := x.rowSees hpos
    have := run_convert_bytes_arg (P := Tryz.prog) w 58 5 Tryz.underlying58 Tryz.underlying5 g 0 l.length cap (l.map fun c : Nat => (c : Int)) (by simp) (fun i hi => by
      rw [hsee i (.int .u8 (l[i] : Int)) (by simp [cellsB, List.getElem?_eq_getElem hi])]
      simp [List.getD, List.getElem?_eq_getElem hi]) 9 Tryz.underlying9
    rwa [strOfNums_bs] at this
theorem wText_ok {E W : World} {L : List HP} {b : Nat} {l : List Nat} (x : Sat E W (isWr b l :: L)) :
    Calls Tryz.prog 74 #[.pointer (some ⟨b, 0, none⟩)] W fun e w' => e = .returned (.string (bs l)) ∧ w' = W := by
  obtain ⟨a, c, hx⟩ := wr_open x
  have c0 := cell_blk hx.at 0
  have hcv := runText hx.p1
  clear x hx
  go_enter Tryz.func74, Tryz.ntmps74
  go_wp2
  go_ret
  exact ⟨rfl, rfl⟩

/-- How many noughts fill a text up. -/
def padN (n : Nat) : Nat := (4 - n % 4) % 4
theorem padw_ok (n : Nat) (hn : n ≤ 9223372036854775807) (W : World) : Calls Tryz.prog 208 #[.int .i64 n] W fun e w' => e = .returned (.int .i64 (padN n)) ∧ w' = W := by
  by_cases h : n < 1
  · have e : padN n = 0 := by unfold padN; omega
    have HE := Lib.hid e
    clear e
    go_enter Tryz.func208, Tryz.ntmps208
    go_wp2
    go_ret
    exact ⟨by rw [HE.out]; rfl, rfl⟩
  · have hp : (4 - (n : Int) % 4) % 4 = (padN n : Int) := by unfold padN; omega
    go_enter Tryz.func208, Tryz.ntmps208
    go_wp2
    go_ret
    exact ⟨retI (by first | rfl | exact hp), rfl⟩
end Go.Proofs.YtodjdcdbmbmbmaaGreatDoor
