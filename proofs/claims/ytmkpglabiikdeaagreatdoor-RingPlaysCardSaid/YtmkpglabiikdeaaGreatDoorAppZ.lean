/-
  'append(b, make([]byte, n)...)' onto an owned row of bytes. No program in sight but for its types.
-/
import Derived.Test.YtmkpglabiikdeaaGreatDoorXdrR
namespace Go.Proofs.YtmkpglabiikdeaaGreatDoor
open Go.RowKit PH

theorem zc_list (m : Nat) : (Builtin.zeroCells (Value.int .u8 0).cells m).toList = List.replicate m (Value.int .u8 0) := by
  apply List.ext_getElem?
  intro i
  by_cases h : i < m <;> simp [Builtin.zeroCells, Value.cells, Nat.mod_one, h]

theorem run_z_room {w : World} (ty : TypeId) (g sLen sCap m : Nat) (hm : m ≤ 1000000) (hroom : sLen + m ≤ sCap) (hc : ∀ j, j < m → (w.cell? ⟨g, sLen + j, none⟩).isSome = true) (hf : ∀ j, w.frozen? ⟨g, sLen + j, none⟩ = false) :
    (Builtin.append_ #[72, 3] ty #[.slice (some ⟨g, 0, none⟩) sLen sCap, .int .i64 m]).run Tryz.prog w = .ok (.slice (some ⟨g, 0, none⟩) (sLen + m) sCap) (w.setCells g sLen (List.replicate m (.int .u8 0))) := by
  obtain ⟨i, hi, hz, hsz, hby⟩ := info_parts (P := Tryz.prog) (e := 5) (z := .int .u8 0) (size := 1) (bytes := 1) (by kernel_rfl)
  have hst := run_storeCells_cells (P := Tryz.prog) g sLen (List.replicate m (Value.int .u8 0)) 0 w (by simpa using hc) (by intro j _; simpa using hf j) (by simp [Value.oneCell'])
  simp only [Nat.add_zero] at hst
  have hwrap : IntKind.i64.wrap (m : Int) = (m : Int) := by simp [IntKind.wrap, IntKind.bits, IntKind.signed]; omega
  have h1 : ¬ ((m : Int) < 0) := by omega
  have h2 : ¬ ((281474976710656 : Int) < (m : Int)) := by omega
  by_cases h0 : m = 0
  · subst h0
    have hwrap0 : IntKind.i64.wrap 0 = 0 := rfl
    have hst0 : (storeCells ⟨g, sLen, none⟩ []).run Tryz.prog w = .ok () w := rfl
    simp [Builtin.append_, run_underlying Tryz.underlying72, run_underlying Tryz.underlying3, sizeOf, typeInfo, hi, hsz, hby, asInt, asIntOf, hwrap0, hst0, Addr.add_lit, World.setCells]
    intro h; omega
  · simp [Builtin.append_, run_underlying Tryz.underlying72, run_underlying Tryz.underlying3, sizeOf, typeInfo, zeroValue, hi, hz, hsz, hby, asInt, asIntOf, hwrap, h1, h2, h0, hroom, Addr.add_lit]
    rw [zc_list, hst]
    rfl
set_option maxRecDepth 10000 in
theorem run_z_grow {w : World} (ty : TypeId) (base : Option Addr) (sLen sCap m : Nat) (hm : m ≤ 1000000) (h0 : m ≠ 0) (olds : List Value) (hold : (Builtin.firstCells 1 sLen (.slice base sLen sCap)).run Tryz.prog w.drew = .ok olds.toArray w.drew)
    (hg : sCap < sLen + m) (h63 : ((sLen + m : Nat) : Int) ≤ 9223372036854775807) (hfit : Builtin.nextslicecap (sLen + m) sCap * 1 ≤ 281474976710656) :
    (Builtin.append_ #[72, 3] ty #[.slice base sLen sCap, .int .i64 m]).run Tryz.prog w = .ok (.slice (some ⟨w.heap.size, 0, none⟩) (sLen + m) (grownCap w (sLen + m) sCap 5))
        (w.drew.alloc (.cells ((olds ++ List.replicate m (Value.int .u8 0)).toArray ++ Builtin.zeroCells (Value.int .u8 0).cells (grownCap w (sLen + m) sCap 5 - (sLen + m))) 5)) := by
  obtain ⟨i, hi, hz, hsz, hby⟩ := info_parts (P := Tryz.prog) (e := 5) (z := .int .u8 0) (size := 1) (bytes := 1) (by kernel_rfl)
  have hwrap : IntKind.i64.wrap (m : Int) = (m : Int) := by simp [IntKind.wrap, IntKind.bits, IntKind.signed]; omega
  have h1 : ¬ ((m : Int) < 0) := by omega
  have h2 : ¬ ((281474976710656 : Int) < (m : Int)) := by omega
  have hn : ¬ (sLen + m ≤ sCap) := by omega
  have h63' : ¬ (9223372036854775807 < ((sLen : Int) + (m : Int))) := by omega
  have h48' : ¬ (281474976710656 < Builtin.nextslicecap (sLen + m) sCap) := by omega
  simp [Builtin.append_, run_underlying Tryz.underlying72, run_underlying Tryz.underlying3, sizeOf, typeInfo, zeroValue, hi, hz, hsz, hby, asInt, asIntOf, hwrap, h1, h2, h0, hn, h63', h48', Question.forced, hold, newRow, grownCap]
  refine congrArg (fun c => w.drew.alloc (.cells c 5)) ?_
  apply Array.ext'
  simp [zc_list, List.append_assoc]

theorem appendZ {E w : World} {L : List HP} {v : Value} {n : Nat} {cs : List Value} (x : Sat E w (row 5 1 v n cs :: L)) (ty : TypeId) (m : Nat) (hm : m ≤ 1000000) (hn : n ≤ 100000000) :
    ∃ v' w', (Builtin.append_ #[72, 3] ty #[v, .int .i64 m]).run Tryz.prog w = .ok v' w' ∧ Sat E w' (row 5 1 v' (n + m) (cs ++ List.replicate m (Value.int .u8 0)) :: L) := by
  obtain ⟨hlen, hx⟩ := x.rowCases
  rw [Nat.mul_one] at hlen
  have hlen' : (cs ++ List.replicate m (Value.int .u8 0)).length = n + m := by rw [List.length_append, hlen, List.length_replicate]
  rcases hx with ⟨rfl, rfl, rfl, y⟩ | ⟨g, cap, cur, rfl, hnc, hcm, hcs, htake, x⟩
  · by_cases h0 : m = 0
    · subst h0
      obtain ⟨i, hi, hz, hsz, hby⟩ := info_parts (P := Tryz.prog) (e := 5) (z := .int .u8 0) (size := 1) (bytes := 1) (by kernel_rfl)
      have hwrap0 : IntKind.i64.wrap 0 = 0 := rfl
      refine ⟨.slice none 0 0, w, ?_, by simpa using y.rowNil 5 1⟩
      simp [Builtin.append_, run_underlying Tryz.underlying72, run_underlying Tryz.underlying3, sizeOf, typeInfo, hi, hby, asInt, asIntOf, hwrap0]
    · have hr := run_z_grow (w := w) ty none 0 0 m hm h0 [] (run_firstCells_none w.drew 1 0 0 0) (by omega) (by omega) (growslice_fits (need := 0 + m) (old := 0) (bytes := 1) (by omega) (by omega))
      have hge := grownCap_ge w (0 + m) 0 5
      have hcm : grownCap w (0 + m) 0 5 ≤ maxLen := grownCap_le_maxLen w (0 + m) 0 5 (by unfold maxLen; omega)
      refine ⟨_, _, hr, ?_⟩
      refine (y.drew.alloc _).rowMk hge hcm ?_ ?_
      · simp only [Array.size_append, List.size_toArray, size_zeroCells, List.nil_append, List.length_replicate]
        show m + _ * 1 = _
        omega
      · simp only [Array.toList_append]
        rw [Nat.mul_one, ← hlen']
        exact List.take_left
  · by_cases hroom : n + m ≤ cap
    · have hr := run_z_room (w := w) ty g n cap m hm hroom (fun j hj => by rw [cell_blk x.at, Array.getElem?_eq_getElem (by omega)]; rfl) (fun j => frozen_blk x.at _)
      refine ⟨_, _, hr, ?_⟩
      refine (Sat.setCells _ n w cur x).rowMk hroom hcm (by rw [putCells_size]; exact hcs) ?_
      have := putCells_take (List.replicate m (Value.int .u8 0)) cur n (by rw [List.length_replicate]; omega)
      rw [List.length_replicate] at this
      rw [Nat.mul_one, this, ← htake, Nat.mul_one]
    · have h0 : m ≠ 0 := by omega
      have holds : ∀ j u, cs[j]? = some u → w.cell? ((⟨g, 0, none⟩ : Addr).add j) = some u := by
        intro j u hj
        have hadd : (⟨g, 0, none⟩ : Addr).add j = ⟨g, j, none⟩ := by unfold Addr.add; split <;> simp_all
        rw [hadd, cell_blk x.at, ← hj, ← htake, List.getElem?_take]
        have : j < n * 1 := by rw [Nat.mul_one, ← hlen]; exact (List.getElem?_eq_some_iff.1 hj).1
        rw [if_pos this, Array.getElem?_toList]
      have hr := run_z_grow (w := w) ty (some ⟨g, 0, none⟩) n cap m hm h0 cs (run_firstCells_some w.drew 1 n ⟨g, 0, none⟩ n cap cs (by omega) (by simpa using holds)) (by omega) (by omega) (growslice_fits (by omega) (by omega))
      have hge := grownCap_ge w (n + m) cap 5
      have hcm' : grownCap w (n + m) cap 5 ≤ maxLen := grownCap_le_maxLen w (n + m) cap 5 (by unfold maxLen; omega)
      refine ⟨_, _, hr, ?_⟩
      refine (x.tail.drew.alloc _).rowMk hge hcm' ?_ ?_
      · simp only [Array.size_append, List.size_toArray, size_zeroCells, hlen']
        show n + m + _ * 1 = _
        omega
      · simp only [Array.toList_append]
        rw [Nat.mul_one, ← hlen']
        exact List.take_left
end Go.Proofs.YtmkpglabiikdeaaGreatDoor

