/-
  posthouse/xdr: the writer, walked.
-/
import Derived.Tactics
import Derived.Tactics2
import Derived.OwnWalk
import Derived.RegionTactic
import Derived.RegionCalls
import Derived.Test.YtodjdcdbmbmbmaaGreatDoorProg
import Derived.Test.YtodjdcdbmbmbmaaGreatDoorApp
import Derived.Test.YtodjdcdbmbmbmaaGreatDoorNum
namespace Go.Proofs.YtodjdcdbmbmbmaaGreatDoor
open Go.RowKit PH

/-- A writer at block b that has the bytes l. -/
def isWr (b : Nat) (l : List Nat) : HP := ex fun v : Value => seps [pt b (.cells #[v] 178), row 5 1 v l.length (cellsB l)]
section
variable {E W : World} {L : List HP} {b : Nat} {l : List Nat}
theorem rowSlice {e : TypeId} {sz n : Nat} {v : Value} {cs : List Value} (x : Sat E W (row e sz v n cs :: L)) : ∃ a c, v = .slice a n c ∧ n ≤ c := by
  obtain ⟨_, hx⟩ := x.rowCases
  rcases hx with ⟨rfl, rfl, _, _⟩ | ⟨g, cap, cur, rfl, h1, _⟩
  · exact ⟨none, 0, rfl, Nat.le_refl _⟩
  · exact ⟨some ⟨g, 0, none⟩, cap, rfl, h1⟩
theorem wr_open (x : Sat E W (isWr b l :: L)) : ∃ a c, Sat E W (pt b (.cells #[.slice a l.length c] 178) :: row 5 1 (.slice a l.length c) l.length (cellsB l) :: L) := by
  obtain ⟨v, hx⟩ := x.ex
  have hx := hx.flat
  obtain ⟨a, c, rfl, -⟩ := rowSlice hx.p1
  exact ⟨a, c, hx⟩
theorem wr_close {v : Value} (x : Sat E W (pt b (.cells #[v] 178) :: row 5 1 v l.length (cellsB l) :: L)) : Sat E W (isWr b l :: L) :=
  Sat.mkEx (A := fun v : Value => seps [pt b (.cells #[v] 178), row 5 1 v l.length (cellsB l)]) v (Sat.pack [_, _] x)
end
theorem numL_get (n : Nat) : ∀ (k j : Nat), j < k → (numL n k)[j]? = some (n / 256 ^ (k - 1 - j) % 256)
  | k + 1, 0, _ => by rw [numL, List.getElem?_cons_zero]; rfl
  | k + 1, j + 1, h => by
    rw [numL, List.getElem?_cons_succ, numL_get n k j (by omega)]
    congr 4; omega
theorem numL_take (n k j : Nat) (h : j < k) : (numL n k).take (j + 1) = (numL n k).take j ++ [n / 256 ^ (k - 1 - j) % 256] := by
  rw [List.take_add_one, numL_get n k j h]; rfl

theorem pow_256 (p : Nat) : (2 : Int) ^ (8 * p) = 256 ^ p := by
  have h : (2 : Nat) ^ (8 * p) = 256 ^ p := Nat.pow_mul 2 8 p
  have h2 := congrArg (fun x : Nat => (x : Int)) h
  rwa [Int.natCast_pow, Int.natCast_pow] at h2
theorem shr_pow (n p : Nat) : (n : Int) / 2 ^ (8 * (p : Int)).toNat = (n : Int) / 256 ^ p := by
  rw [show (8 * (p : Int)).toNat = 8 * p by omega, pow_256]
theorem wrap_u8_pow (n p : Nat) : IntKind.u8.wrap ((n : Int) / 256 ^ p) = ((n / 256 ^ p % 256 : Nat) : Int) := by
  have h : IntKind.u8.wrap ((n : Int) / 256 ^ p) = ((n : Int) / 256 ^ p) % 256 := by simp [IntKind.wrap, IntKind.bits, IntKind.signed]
  rw [h, Int.natCast_emod, Int.natCast_ediv, Int.natCast_pow]
  rfl

set_option maxRecDepth 100000 in
set_option maxHeartbeats 800000 in
theorem wnumber_ok {E W : World} {L : List HP} {b : Nat} {l : List Nat} (x : Sat E W (isWr b l :: L)) (hl : l.length ≤ 10000000) (n k : Nat) (_hn : n ≤ 9223372036854775807) (hk : k ≤ 8) :
    Calls Tryz.prog 147 #[.pointer (some ⟨b, 0, none⟩), .int .i64 n, .int .i64 k] W fun e w' => e = .returned (.tuple #[]) ∧ Sat E w' (isWr b (l ++ numL n k) :: L) := by
  have HX := Lib.hid x
  clear x
  go_enter Tryz.func147, Tryz.ntmps147
  go_wp2
  go_loopw [6] (fun i wr => ∃ j : Nat, j ≤ k ∧ i = .int .i64 ((k : Int) - 1 - j) ∧ Sat E wr (isWr b (l ++ (numL n k).take j) :: L)) (fun i _ => (intOf i + 1).toNat)
  case atStart => exact ⟨0, by omega, by simp, by simpa using HX.out⟩
  case round =>
    obtain ⟨j, hj, rfl, hx⟩ := hrel
    by_cases hlt : j < k
    · obtain ⟨p, hp⟩ : ∃ p : Nat, k - 1 - j = p := ⟨_, rfl⟩
      have hp2 : (k : Int) - 1 - (j : Int) = (p : Int) := by omega
      have hp8 : p < 8 := by omega
      obtain ⟨m, hm⟩ : ∃ m, (l ++ (numL n k).take j).length = m := ⟨_, rfl⟩
      have hm2 : m ≤ 10000008 := by rw [← hm, List.length_append, List.length_take, numL_len]; omega
      obtain ⟨B, hB⟩ : ∃ B, n / 256 ^ p % 256 = B := ⟨_, rfl⟩
      obtain ⟨a, c, hx⟩ := wr_open hx
      rw [hm] at hx
      have c0 : wr.drew.cell? ⟨b, 0, none⟩ = some (.slice a m c) := cell_blk hx.drew.at 0
      have HXR := Lib.hid hx
      have HM := Lib.hid hm
      have HB := Lib.hid hB
      have HP := Lib.hid hp
      clear hx hm hB hp
      rw [hp2]
      go_wp2
      refine wp_region_planL [(0, true), (1, true), (2, true), (3, true), (4, true), (5, true), (6, true), (7, true), (8, true), (9, false), (10, false), (11, false), (12, true), (13, true), (14, false)]
        [(11, fun w1 => w1.cell? ⟨b, 0, none⟩ = some (.slice a m c))] (by kernel_rfl) (by kernel_rfl) (by intro c a d v w h; cases d <;> exact h) ?_ ?_
      · exact ⟨c0, trivial⟩
      simp only [planOps, List.getElem?_cons_zero, List.getElem?_cons_succ]
      iterate 8 (first | ((apply plan_pure rfl; (intro w1; go_simp; try go_bits); with_reducible rfl); try simp only [Act.put, List.setIfInBounds_toArray, List.set_cons_zero, List.set_cons_succ]) | ((refine' plan_load 0 rfl (by kernel_rfl) rfl ?_ ?_; rotate_left; (intro w1 hw1; go_simp; with_reducible rfl)); try simp only [Act.put, List.setIfInBounds_toArray, List.set_cons_zero, List.set_cons_succ]))
      refine plan_pure (v := .int .i64 ((n / 256 ^ p : Nat) : Int)) rfl (fun w1 => by go_simp; exact shr_pow n p) ?_
      try simp only [Act.put, List.setIfInBounds_toArray, List.set_cons_zero, List.set_cons_succ]
      refine plan_loud rfl (fun K hK => ?_); go_simp
      rw [show IntKind.u8.wrap ((n : Int) / 256 ^ p) = (B : Int) by rw [wrap_u8_pow, HB.out]]
      refine hK _ _ ⟨c0, trivial⟩ ?_
      clear hK K
      try simp only [Act.put, List.setIfInBounds_toArray, List.set_cons_zero, List.set_cons_succ]
      refine plan_loud rfl (fun K hK => ?_); go_simp
      refine hK _ _ ⟨cell_al c0, trivial⟩ ?_
      clear hK K
      refine plan_loud rfl (fun K hK => ?_)
      refine wp_app1 _ _ 58 rfl HXR.out.drew.p1 1 (.int .u8 0) (by kernel_rfl) Tryz.underlying58 rfl rfl [.int .u8 B] rfl rfl (by simp [Value.oneCell']) (by omega) (by omega) ?_
      intro v8 w8 hx8 _
      obtain ⟨g8, cap8, rfl, -⟩ := hx8.rowSees (by omega)
      have hx8 := hx8.p1
      have c8 := cell_blk hx8.at 0
      have f8 := frozen_blk hx8.at 0
      refine hK _ _ trivial ?_
      clear hK K
      try simp only [Act.put, List.setIfInBounds_toArray, List.set_cons_zero, List.set_cons_succ]
      iterate 2 (first | ((apply plan_pure rfl; (intro w1; go_simp; try go_bits); with_reducible rfl); try simp only [Act.put, List.setIfInBounds_toArray, List.set_cons_zero, List.set_cons_succ]) | ((refine' plan_load 0 rfl (by kernel_rfl) rfl ?_ ?_; rotate_left; (intro w1 hw1; go_simp; with_reducible rfl)); try simp only [Act.put, List.setIfInBounds_toArray, List.set_cons_zero, List.set_cons_succ]))
      refine plan_loud rfl (fun K hK => ?_); go_simp
      refine hK _ _ trivial (plan_nil ?_)
      clear hK K
      go_wp2
      refine ⟨⟨j + 1, by omega, by rw [show (p : Int) - 1 = (k : Int) - 1 - ((j + 1 : Nat) : Int) by omega], ?_⟩, by simp [intOf]⟩
      have hx9 := hx8.setCell 0 (.slice (some ⟨g8, 0, none⟩) (m + 1) cap8)
      refine wr_close (v := .slice (some ⟨g8, 0, none⟩) (m + 1) cap8) ?_
      rw [numL_take n k j hlt, ← List.append_assoc, List.length_append, HM.out, cellsB_append, HP.out, HB.out]
      exact hx9
    · obtain rfl : j = k := by omega
      have HXR := Lib.hid hx
      clear hx
      have hm1 : (j : Int) - 1 - (j : Int) = -1 := by omega
      rw [hm1]
      go_wp2
      refine bodyPost_end (results_none rfl _ _ _) rfl ⟨rfl, ?_⟩
      have h := HXR.out
      rw [show (numL n j).take j = numL n j from List.take_of_length_le (by rw [numL_len]; omega)] at h
      exact h
end Go.Proofs.YtodjdcdbmbmbmaaGreatDoor
