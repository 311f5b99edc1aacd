/-
  Layer 28: keys of nodes, the program's and the document's.
-/
import Derived.Test.YtjmfclhilmmamaaGreatDoorFhR
namespace Go.Proofs.YtjmfclhilmmamaaGreatDoor
open Go.RowKit PH

abbrev attrR (t0 t1 t2 t3 t4 t5 id gen t8 t9 : Int) : Array Value := #[.int .i64 t0, .int .i64 t1, .int .i64 t2, .int .i64 t3, .int .i64 t4, .int .i64 t5, .int .i64 id, .int .i64 gen, .int .i64 t8, .int .i64 t9]
set_option maxRecDepth 100000 in
theorem key_ok {E W : World} {L : List HP} (x : Sat E W L) (t0 t1 t2 t3 t4 t5 id gen t8 t9 : Int) (h1 : id ≤ 9223372036854775807) (h2 : gen ≤ 9223372036854775807) :
    Calls Tryz.prog 5 #[.agg (attrR t0 t1 t2 t3 t4 t5 id gen t8 t9)] W fun e w' => e = .returned (.string (keyS id gen)) ∧ Sat E w' L := by
  have HX := Lib.hid (x.alloc (.cells (attrR t0 t1 t2 t3 t4 t5 id gen t8 t9) 23)).tail
  clear x
  go_enter Tryz.func5, Tryz.ntmps5
  go_wp2_with (go_at_call 12; refine (node_ok HX.out id gen h1 h2).mono ?_; rintro e w2 ⟨rfl, hx2⟩)
  go_ret
  exact ⟨rfl, hx2⟩
set_option maxRecDepth 100000 in
theorem refKey_ok {E W : World} {L : List HP} (x : Sat E W L) (t0 t1 t2 t3 t4 t5 id gen t8 t9 : Int) (h1 : id ≤ 9223372036854775807) (h2 : gen ≤ 9223372036854775807) :
    Calls Tryz.prog 6 #[.agg (attrR t0 t1 t2 t3 t4 t5 id gen t8 t9)] W fun e w' => e = .returned (.string (keyS id gen)) ∧ Sat E w' L := by
  have HX := Lib.hid (x.alloc (.cells (attrR t0 t1 t2 t3 t4 t5 id gen t8 t9) 23)).tail
  clear x
  by_cases c : id < 1 ∨ gen < 1 ∨ 4294967296 ≤ id
  · rw [keyS, if_pos c]
    by_cases c1 : id < 1
    · go_enter Tryz.func6, Tryz.ntmps6
      go_wp2
      all_goals (go_ret; exact ⟨rfl, HX.out⟩)
    by_cases c3 : 4294967295 < id
    · go_enter Tryz.func6, Tryz.ntmps6
      go_wp2
      all_goals (go_ret; exact ⟨rfl, HX.out⟩)
    have c2 : gen < 1 := by omega
    go_enter Tryz.func6, Tryz.ntmps6
    go_wp2
    all_goals (go_ret; exact ⟨rfl, HX.out⟩)
  · rw [keyS, if_neg c]
    have c1 : ¬ id < 1 := by omega
    have c2 : ¬ gen < 1 := by omega
    have c3 : ¬ 4294967295 < id := by omega
    obtain ⟨A, rfl⟩ := Int.eq_ofNat_of_zero_le (show 0 ≤ id by omega)
    obtain ⟨B, rfl⟩ := Int.eq_ofNat_of_zero_le (show 0 ≤ gen by omega)
    go_enter Tryz.func6, Tryz.ntmps6
    go_wp2_with (go_at_call 13; refine (refMake_ok HX.out A B (by omega) (by omega)).mono ?_; rintro e w2 ⟨rfl, hx2⟩)
    all_goals (go_ret; exact ⟨rfl, hx2⟩)
/-- Unlike nodes have unlike keys. -/
theorem keyS_ne (id gen : Int) (h : ¬ (id < 1 ∨ gen < 1 ∨ 4294967296 ≤ id)) : keyS id gen ≠ ByteArray.empty := by
  rw [keyS, if_neg h]
  intro e
  have := congrArg ByteArray.size e
  rw [bs_size, hL_len] at this
  cases this
theorem keyS_inj {a b c d : Int} (ha : keyS a b ≠ ByteArray.empty) (hb : b ≤ 9223372036854775807) (hd : d ≤ 9223372036854775807) : keyS a b = keyS c d ↔ a = c ∧ b = d := by
  refine ⟨fun e => ?_, fun ⟨h1, h2⟩ => by rw [h1, h2]⟩
  have h1 : ¬ (a < 1 ∨ b < 1 ∨ 4294967296 ≤ a) := fun h => ha (by rw [keyS, if_pos h])
  have h2 : ¬ (c < 1 ∨ d < 1 ∨ 4294967296 ≤ c) := fun h => ha (by rw [e, keyS, if_pos h])
  rw [keyS, if_neg h1, keyS, if_neg h2] at e
  have e2 := bs_inj (hL_ok 1 a.toNat b.toNat (by omega)) (hL_ok 1 c.toNat d.toNat (by omega)) e
  simp only [hL, List.cons.injEq, true_and] at e2
  have e3 := List.append_inj e2 (by rw [numL_len, numL_len])
  have v1 := congrArg valL e3.1
  have v2 := congrArg valL e3.2
  rw [valL_numL, valL_numL, Nat.mod_eq_of_lt (by omega), Nat.mod_eq_of_lt (by omega)] at v1
  rw [valL_numL, valL_numL, Nat.mod_eq_of_lt (by omega), Nat.mod_eq_of_lt (by omega)] at v2
  omega
end Go.Proofs.YtjmfclhilmmamaaGreatDoor
