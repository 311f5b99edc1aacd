/-
  posthouse/image: how many sectors; areas; a text's bytes, walked.
-/
import Derived.Test.YtmkpglabiikdeaaImgD
namespace Go.Proofs.Ytmkpglabiikdeaa
open Go.RowKit PH

/-- A block of bytes that begins with the text T. -/
def bytesR (g : Nat) (T : ByteArray) : HP := ex fun c : Array Value => ex fun fz : Nat × Nat => seps [fact (∀ i, i < T.size → c[i]? = some (.int .u8 (byt T i))), pt g (.cells c 5 fz)]
section
variable {E w : World} {L : List HP} {g : Nat} {T : ByteArray}
theorem bytesR_close {c : Array Value} {fz : Nat × Nat} (x : Sat E w (pt g (.cells c 5 fz) :: L)) (h : ∀ i, i < T.size → c[i]? = some (.int .u8 (byt T i))) : Sat E w (bytesR g T :: L) :=
  Sat.mkEx (A := fun c : Array Value => ex fun fz : Nat × Nat => seps [fact (∀ i, i < T.size → c[i]? = some (.int .u8 (byt T i))), pt g (.cells c 5 fz)]) c
    (Sat.mkEx (A := fun fz : Nat × Nat => seps [fact (∀ i, i < T.size → c[i]? = some (.int .u8 (byt T i))), pt g (.cells c 5 fz)]) fz (Sat.pack [_, _] (Sat.mkFact h x)))
theorem bytesR_get (x : Sat E w (bytesR g T :: L)) {i : Nat} (h : i < T.size) : w.cell? ⟨g, i, none⟩ = some (.int .u8 (byt T i)) := by
  obtain ⟨c, hx⟩ := x.ex
  obtain ⟨fz, hx⟩ := hx.ex
  obtain ⟨hc, hx⟩ := hx.flat.fact
  rw [cell_blk hx.at]
  exact hc i h
/-- A part of it, as a text. -/
theorem bytesR_conv {cap o n : Nat} (x : Sat E w (bytesR g T :: L)) (h : o + n ≤ T.size) :
    (convert 96 9 (.slice (some ⟨g, o, none⟩) n cap)).run Try.prog w = .ok (.string (T.extract o (o + n))) w := by
  have hS : (T.extract o (o + n)).size = n := by rw [ByteArray.size_extract]; omega
  have := run_convert_bytes_arg (P := Try.prog) w 96 5 Try.underlying96 Try.underlying5 g o n cap ((lst (T.extract o (o + n))).map fun c : Nat => (c : Int)) (by simp [lst_len, hS]) (fun i hi => by
    have hi2 : i < (lst (T.extract o (o + n))).length := by rw [lst_len, hS]; exact hi
    rw [bytesR_get x (by omega), ← byt_extract T o (o + n) i h (by omega)]
    have := lst_get (T.extract o (o + n)) (i := i) (by omega)
    rw [List.getElem?_eq_getElem hi2] at this
    simp [List.getD, List.getElem?_eq_getElem hi2, Option.some.inj this]) 9 Try.underlying9
  rw [strOfNums_bs, bs_lst] at this
  exact this
theorem convBytes2 (x : Sat E w L) (s : ByteArray) (hs : s.size ≤ 100000000) : ∃ g cap w', (convert 9 96 (.string s)).run Try.prog w = .ok (.slice (some ⟨g, 0, none⟩) s.size cap) w' ∧ s.size ≤ cap ∧ cap ≤ maxLen ∧ Sat E w' (pt g (.cells (bytesRow s cap) 5 ((bytesRow s cap).size, (bytesRow s cap).size + 1)) :: L) :=
  ⟨_, _, _, run_bytes_of_string w 9 96 5 s Try.underlying9 Try.underlying96 Try.underlying5, grownCap_ge w s.size 0 5, grownCap_le_maxLen w s.size 0 5 (by unfold maxLen; omega), x.drew.alloc _⟩
theorem bytesRow_size (s : ByteArray) {cap : Nat} (h : s.size ≤ cap) : (bytesRow s cap).size = cap := by
  unfold bytesRow
  rw [Array.size_append, Array.size_map, Array.size_replicate]
  show s.size + (cap - s.size) = cap
  omega
theorem bytesRow_byt (s : ByteArray) (cap : Nat) {i : Nat} (h : i < s.size) : (bytesRow s cap)[i]? = some (.int .u8 (byt s i)) := by
  rw [bytesRow_at s cap i h]
  unfold byt
  rw [dif_pos h]
  rfl
theorem byt_zeros_append (s : ByteArray) (m i : Nat) (h : i < s.size + m) : byt (s ++ zeros m) i = if i < s.size then byt s i else 0 := by
  rw [← lst_getD, lst_append, List.getD_eq_getElem?_getD]
  split
  · rename_i hi
    rw [List.getElem?_append_left (by rw [lst_len]; exact hi), lst_get s hi]
    rfl
  · rename_i hi
    rw [List.getElem?_append_right (by rw [lst_len]; omega), lst_len, lst_get _ (by rw [zeros_size]; omega), byt_zeros]
    rfl
/-- Noughts appended to the bytes of a text. -/
theorem appendZb {s : ByteArray} {cap : Nat} (hc : s.size ≤ cap) (_hcm : cap ≤ maxLen) (x : Sat E w (pt g (.cells (bytesRow s cap) 5 ((bytesRow s cap).size, (bytesRow s cap).size + 1)) :: L)) (ty : TypeId) (m : Nat) (hm : m ≤ 1000000) (hn : s.size ≤ 100000000) :
    ∃ g' cap' w', (Builtin.append_ #[96, 3] ty #[.slice (some ⟨g, 0, none⟩) s.size cap, .int .i64 m]).run Try.prog w = .ok (.slice (some ⟨g', 0, none⟩) (s.size + m : Nat) cap') w' ∧ s.size + m ≤ cap' ∧ Sat E w' (bytesR g' (s ++ zeros m) :: L) := by
  have hsz := bytesRow_size s hc
  have hts : (s ++ zeros m).size = s.size + m := by rw [ByteArray.size_append, zeros_size]
  by_cases hroom : s.size + m ≤ cap
  · have hfr : ∀ j, j < m → w.frozen? ⟨g, s.size + j, none⟩ = false := fun j hj => by
      have := x.at
      have hlt : ¬ (bytesRow s cap).size ≤ s.size + j := by omega
      simp [World.frozen?, this, hlt]
    obtain ⟨i, hi, hz, hsz2, hby⟩ := info_parts (P := Try.prog) (e := 5) (z := .int .u8 0) (size := 1) (bytes := 1) (by kernel_rfl)
    have hst := run_storeCells_cells (P := Try.prog) g s.size (List.replicate m (Value.int .u8 0)) 0 w (fun j hj => by
      rw [List.length_replicate] at hj
      rw [Nat.add_zero, cell_blk x.at, Array.getElem?_eq_getElem (by omega)]; rfl) (fun j hj => by rw [List.length_replicate] at hj; simpa using hfr j hj) (by simp [Value.oneCell'])
    simp only [Nat.add_zero] at hst
    have hset := Sat.setCells (List.replicate m (Value.int .u8 0)) s.size w _ x
    have hwrap : IntKind.i64.wrap (m : Int) = (m : Int) := by simp [IntKind.wrap, IntKind.bits, IntKind.signed]; omega
    have h1 : ¬ ((m : Int) < 0) := by omega
    have h2 : ¬ ((281474976710656 : Int) < (m : Int)) := by omega
    have hr : (Builtin.append_ #[96, 3] ty #[.slice (some ⟨g, 0, none⟩) s.size cap, .int .i64 m]).run Try.prog w = .ok (.slice (some ⟨g, 0, none⟩) (s.size + m) cap) (w.setCells g s.size (List.replicate m (.int .u8 0))) := by
      by_cases h0 : m = 0
      · subst h0
        have hwrap0 : IntKind.i64.wrap 0 = 0 := rfl
        have hst0 : (storeCells ⟨g, s.size, none⟩ []).run Try.prog w = .ok () w := rfl
        simp [Builtin.append_, run_underlying Try.underlying96, run_underlying Try.underlying3, sizeOf, typeInfo, hi, hsz2, hby, asInt, asIntOf, hwrap0, hst0, Addr.add_lit, World.setCells]
        intro h; omega
      · simp [Builtin.append_, run_underlying Try.underlying96, run_underlying Try.underlying3, sizeOf, typeInfo, zeroValue, hi, hz, hsz2, hby, asInt, asIntOf, hwrap, h1, h2, h0, hroom, Addr.add_lit]
        rw [zc_list, hst]
        rfl
    refine ⟨g, cap, _, hr, hroom, bytesR_close hset (fun i hi => ?_)⟩
    rw [hts] at hi
    rw [byt_zeros_append s m i hi]
    have htk := putCells_take (List.replicate m (Value.int .u8 0)) (bytesRow s cap) s.size (by rw [List.length_replicate]; omega)
    rw [List.length_replicate] at htk
    have hget : (putCells (bytesRow s cap) s.size (List.replicate m (Value.int .u8 0)))[i]? = ((bytesRow s cap).toList.take s.size ++ List.replicate m (Value.int .u8 0))[i]? := by
      rw [← htk, List.getElem?_take, if_pos hi, Array.getElem?_toList]
    rw [hget]
    split
    · rename_i h
      rw [List.getElem?_append_left (by rw [List.length_take, Array.length_toList]; omega), List.getElem?_take, if_pos h, Array.getElem?_toList]
      exact bytesRow_byt s cap h
    · rename_i h
      rw [List.getElem?_append_right (by rw [List.length_take, Array.length_toList]; omega), List.length_take, Array.length_toList, hsz, Nat.min_eq_left hc, List.getElem?_replicate, if_pos (by omega)]
      rfl
  · have h0 : m ≠ 0 := by omega
    have hold : ∀ j u, ((bytesRow s cap).toList.take s.size)[j]? = some u → w.cell? ((⟨g, 0, none⟩ : Addr).add j) = some u := by
      intro j u hj
      have hadd : (⟨g, 0, none⟩ : Addr).add j = ⟨g, j, none⟩ := by unfold Addr.add; split <;> simp_all
      have hjl : j < s.size := by
        have := (List.getElem?_eq_some_iff.1 hj).1
        rw [List.length_take] at this
        omega
      rw [List.getElem?_take, if_pos hjl, Array.getElem?_toList] at hj
      rw [hadd, cell_blk x.at, hj]
    have hlen : ((bytesRow s cap).toList.take s.size).length = s.size := by rw [List.length_take, Array.length_toList, hsz, Nat.min_eq_left hc]
    have hr := run_z_grow (w := w) ty (some ⟨g, 0, none⟩) s.size cap m hm h0 ((bytesRow s cap).toList.take s.size) (run_firstCells_some w.drew 1 s.size ⟨g, 0, none⟩ s.size cap _ (by omega) (by simpa using hold)) (by omega) (by omega) (growslice_fits (by omega) (by omega))
    refine ⟨_, _, _, hr, grownCap_ge w (s.size + m) cap 5, bytesR_close (x.tail.drew.alloc _) (fun i hi => ?_)⟩
    rw [hts] at hi
    rw [byt_zeros_append s m i hi, Array.getElem?_append_left (by rw [List.size_toArray, List.length_append, hlen, List.length_replicate]; exact hi), List.getElem?_toArray]
    split
    · rename_i h
      rw [List.getElem?_append_left (by rw [hlen]; exact h), List.getElem?_take, if_pos h, Array.getElem?_toList]
      exact bytesRow_byt s cap h
    · rename_i h
      rw [List.getElem?_append_right (by rw [hlen]; omega), hlen, List.getElem?_replicate, if_pos (by omega)]
      rfl
end
end Go.Proofs.Ytmkpglabiikdeaa
