/-
  'append' of whatever source (a string's bytes, noughts) onto an owned row. Generic, no program in sight.
-/
import Derived.Deep.AppendSrc
import Derived.Test.YtodjdcdbmbmbmaaGreatDoorRow
import Derived.Test.YtodjdcdbmbmbmaaGreatDoorNum
namespace PH
open Go Go.RowKit

/-- Cells of a block, stored one behind the other. -/
def putCells (c : Array Value) : Nat → List Value → Array Value
  | _, [] => c
  | o, v :: r => putCells (c.setIfInBounds o v) (o + 1) r
theorem putCells_size : ∀ (vs : List Value) (c : Array Value) (o : Nat), (putCells c o vs).size = c.size
  | [], _, _ => rfl
  | v :: r, c, o => by rw [putCells, putCells_size r]; simp
theorem putCells_take : ∀ (vs : List Value) (c : Array Value) (o : Nat), o + vs.length ≤ c.size → (putCells c o vs).toList.take (o + vs.length) = c.toList.take o ++ vs
  | [], c, o, _ => by simp [putCells]
  | v :: r, c, o, h => by
    rw [List.length_cons] at h
    have ih := putCells_take r (c.setIfInBounds o v) (o + 1) (by simp; omega)
    rw [putCells, List.length_cons, show o + (r.length + 1) = o + 1 + r.length by omega, ih]
    have e : (c.setIfInBounds o v).toList.take (o + 1) = c.toList.take o ++ [v] := by
      rw [Array.toList_setIfInBounds, List.take_set, List.take_add_one, Array.getElem?_toList, Array.getElem?_eq_getElem (by omega)]
      rw [List.set_append_right _ _ (by rw [List.length_take, Array.length_toList]; omega)]
      simp [Nat.min_eq_left (show o ≤ c.size by omega)]
    rw [e, List.append_assoc]
    rfl
theorem Sat.setCells {E : World} {L : List HP} {b : Nat} {ty : TypeId} {fz : Nat × Nat} : ∀ (vs : List Value) (o : Nat) (w : World) (c : Array Value), Sat E w (pt b (.cells c ty fz) :: L) → Sat E (w.setCells b o vs) (pt b (.cells (putCells c o vs) ty fz) :: L)
  | [], _, _, _, x => x
  | v :: r, o, _, _, x => Sat.setCells r (o + 1) _ _ (x.setCell o v)

section
variable {E w : World} {L : List HP} {P : Program} {e : TypeId} {sz : Nat} {v : Value} {n : Nat} {cs : List Value}
theorem Sat.appendSrc (x : Sat E w (row e sz v n cs :: L)) (t tx ty : TypeId) (i : TypeInfo) (z : Value) (bytes : Nat) (ht : P.underlying t = some (.slice e)) (hi : P.info? e = some i) (hz : i.zero = some z)
    (hsize : i.size = sz) (hby : i.bytes = bytes) (hzs : z.cells.size = sz) (xv : Value) (m : Nat) (news : List Value) (hs : Src P i.size tx xv m news w)
    (h63 : n + m ≤ maxLen) (hbytes : (n + m) * bytes ≤ 140737488355328) :
    ∃ v' w', (Builtin.append_ #[t, tx] ty #[v, xv]).run P w = .ok v' w' ∧ Sat E w' (row e sz v' (n + m) (cs ++ news) :: L) := by
  subst hsize; subst hby
  have hsmall : n + m ≤ 9223372036854775807 := by simp only [maxLen] at h63; omega
  obtain ⟨hlen, hx⟩ := x.rowCases
  have hl := hs.newsLen
  have hlen' : (cs ++ news).length = (n + m) * i.size := by rw [List.length_append, hlen, hl, Nat.add_mul]
  rcases hx with ⟨rfl, rfl, rfl, y⟩ | ⟨g, cap, cur, rfl, hnc, hcm, hcs, htake, x⟩
  · by_cases hm : m = 0
    · subst hm
      have hn : news = [] := List.eq_nil_of_length_eq_zero (by simpa using hl)
      subst hn
      refine ⟨.slice none 0 0, w, ?_, by simpa using y.rowNil e i.size⟩
      have hc := hs.cells
      rcases hs.kind with ⟨e', hk⟩ | hk <;> simp [Builtin.append_, run_underlying ht, run_underlying hk, Go.sizeOf, typeInfo, hi, hs.len, hc]
    · have hr := run_append_grow_src (P := P) w t tx ty e i z ht hi hz none 0 0 [] (run_firstCells_none w.drew i.size 0 0 0) xv m news hs (by omega) (by omega) (by
        have := growslice_fits (need := 0 + m) (old := 0) (bytes := i.bytes) (by omega) hbytes
        simpa using this)
      have hge := grownCap_ge w (0 + m) 0 e
      have hcm : grownCap w (0 + m) 0 e ≤ maxLen := grownCap_le_maxLen w (0 + m) 0 e h63
      refine ⟨_, _, hr, ?_⟩
      refine (y.drew.alloc _).rowMk hge hcm ?_ ?_
      · simp only [Array.size_append, List.size_toArray, size_zeroCells, hzs, List.nil_append, hl, ← Nat.add_mul]; congr 1; omega
      · simp only [Array.toList_append]
        rw [← hlen']; exact List.take_left
  · by_cases hroom : n + m ≤ cap
    · have hfit : n * i.size + news.length ≤ cur.size := by rw [hl, hcs, ← Nat.add_mul]; exact Nat.mul_le_mul_right _ hroom
      have hr := run_append_room_src (P := P) w t tx ty e i ht hi g 0 n cap xv m news hs hroom (fun j hj => by
        rw [cell_blk x.at, Nat.zero_add, Array.getElem?_eq_getElem (by omega)]; rfl) (fun j _ => frozen_blk x.at _)
      refine ⟨_, _, hr, ?_⟩
      rw [Nat.zero_add]
      refine (Sat.setCells news (n * i.size) w cur x).rowMk hroom hcm ?_ ?_
      · rw [putCells_size]; exact hcs
      · rw [Nat.add_mul, ← hl, putCells_take _ _ _ hfit, htake]
    · have holds : ∀ j u, cs[j]? = some u → w.cell? ((⟨g, 0, none⟩ : Addr).add j) = some u := by
        intro j u hj
        have hadd : (⟨g, 0, none⟩ : Addr).add j = ⟨g, j, none⟩ := by unfold Addr.add; split <;> simp_all
        rw [hadd, cell_blk x.at, ← hj, ← htake, List.getElem?_take]
        have : j < n * i.size := by rw [← hlen]; exact (List.getElem?_eq_some_iff.1 hj).1
        simp [this]
      have hr := run_append_grow_src (P := P) w t tx ty e i z ht hi hz (some ⟨g, 0, none⟩) n cap cs (run_firstCells_some w.drew i.size n ⟨g, 0, none⟩ n cap cs hlen (by simpa using holds)) xv m news hs (by omega) (by omega) (growslice_fits (by omega) hbytes)
      have hge := grownCap_ge w (n + m) cap e
      have hcm' : grownCap w (n + m) cap e ≤ maxLen := grownCap_le_maxLen w (n + m) cap e h63
      refine ⟨_, _, hr, ?_⟩
      refine (x.tail.drew.alloc _).rowMk hge hcm' ?_ ?_
      · simp only [Array.size_append, List.size_toArray, size_zeroCells, hzs, hlen', ← Nat.add_mul]; congr 1; omega
      · simp only [Array.toList_append]
        rw [← hlen']; exact List.take_left
end
/-- Bytes as cells. -/
def cellsB (l : List Nat) : List Value := l.map fun c : Nat => Value.int .u8 (c : Int)
theorem cellsB_len (l : List Nat) : (cellsB l).length = l.length := by simp [cellsB]
theorem cellsB_append (l m : List Nat) : cellsB (l ++ m) = cellsB l ++ cellsB m := by simp [cellsB]
theorem byteCells_lst (s : ByteArray) : byteCells s = cellsB (lst s) := by simp [byteCells, cellsB, lst]
end PH
