/-
  posthouse/head: Put and Get, walked.
-/
import Derived.Test.YtmkpglabiikdeaaGreatRdAt
namespace Go.Proofs.YtmkpglabiikdeaaGreat
open Go.RowKit PH

def putS (h : Hd) : ByteArray := if okHd h then headB h else ByteArray.empty
theorem putS_yes {h : Hd} (k : okHd h = true) : putS h = headB h := by unfold putS; rw [if_pos k]
theorem putS_no {h : Hd} (k : okHd h = false) : putS h = ByteArray.empty := by unfold putS; rw [k]; rfl
def okE (h : Hd) : Int := if okHd h then 0 else 14

theorem conv_block {E w : World} {L : List HP} {q : Nat} {T : ByteArray} {ty : TypeId} (x : Sat E w (pt q (.cells (cellsB (lst T)).toArray ty) :: L)) :
    (convert 89 9 (.slice (some ⟨q, 0, none⟩) T.size T.size)).run Tryz.prog w = .ok (.string T) w := by
  have := run_convert_bytes_arg (P := Tryz.prog) w 89 5 Tryz.underlying89 Tryz.underlying5 q 0 T.size T.size ((lst T).map fun c : Nat => (c : Int)) (by simp [lst_len]) (fun i hi => by
    have hi2 : i < (lst T).length := by rw [lst_len]; exact hi
    rw [Nat.zero_add, cell_blk x.at i]
    simp [cellsB, List.getD, List.getElem?_eq_getElem hi2]) 9 Tryz.underlying9
  rw [strOfNums_bs, bs_lst] at this
  exact this

theorem putCells_all {vs : List Value} {c : Array Value} (h : vs.length = c.size) : putCells c 0 vs = vs.toArray := by
  apply Array.ext'
  have h1 := putCells_take vs c 0 (by omega)
  rw [Nat.zero_add, List.take_zero, List.nil_append, List.take_of_length_le (by rw [Array.length_toList, putCells_size]; omega)] at h1
  simpa using h1
theorem setCells_all {E w : World} {L : List HP} {q : Nat} {c C : Array Value} {ty : TypeId} (x : Sat E w (pt q (.cells c ty) :: L)) (h : C.size = c.size) : Sat E (w.setCells q 0 C.toList) (pt q (.cells C ty) :: L) := by
  have := Sat.setCells C.toList 0 _ _ x
  rwa [putCells_all (by rw [Array.length_toList]; exact h), Array.toArray_toList] at this

set_option maxRecDepth 100000 in
set_option maxHeartbeats 1600000 in
theorem headPut_ok {E W : World} {L : List HP} (x : Sat E W L) (h : Hd) (hi : h.Int64) : Calls Tryz.prog 38 #[.agg h.cells] W fun e w' => e = .returned (.tuple #[.string (putS h), .int .i64 (okE h)]) ∧ Sat E w' L := by
  have hx1 := x.alloc (.cells h.cells 33)
  obtain ⟨q, hq⟩ : ∃ q, W.heap.size = q := ⟨_, rfl⟩
  rw [hq] at hx1
  have hc : h.cells = #[.int .i64 h.gen, .int .i64 h.epoch, .int .i64 h.since, .int .i64 h.area, .int .i64 h.size, .int .i64 h.next, .int .i64 h.pos] := rfl
  have HC := Lib.hid hc
  rw [hc] at hx1
  obtain ⟨d0, d1, d2, d3, d4, d5, d6⟩ := hd7 hx1
  have hck := headCheck_ok hx1 h
  rw [hc] at hck
  have HCK := Lib.hid hck
  have HX1 := Lib.hid hx1
  rw [hc]
  clear hx1 hc x hck
  cases k : okHd h with
  | false =>
    rw [putS_no k]
    unfold okE
    rw [k]
    have HK := Lib.hid k
    clear k
    go_enter Tryz.func38, Tryz.ntmps38
    go_wp2_with (go_at_call 56; with_reducible refine HCK.out.mono ?_; rintro e w2 ⟨rfl, hx2⟩; rw [HK.out]; have HX2 := Lib.hid hx2; clear hx2)
    go_ret2
    exact ⟨rfl, HX2.out.tail⟩
  | true =>
    rw [putS_yes k]
    unfold okE
    rw [k]
    have HK := Lib.hid k
    have HN := Lib.hid (hi.nat k)
    clear k
    have hTs := headB_size h
    obtain ⟨T, hT⟩ : ∃ T, headB h = T := ⟨_, rfl⟩
    rw [hT] at hTs ⊢
    have HT := Lib.hid hT
    obtain ⟨C, hC⟩ : ∃ C, (cellsB (lst T)).toArray = C := ⟨_, rfl⟩
    have hCs : C.size = 128 := by rw [← hC, List.size_toArray, cellsB_len, lst_len, hTs]
    have hC1 : C.all (·.oneCell') = true := by rw [← hC]; exact all_oneCell_toArray (fun v hv => by obtain ⟨c, _, rfl⟩ := List.mem_map.1 hv; rfl)
    have HCC := Lib.hid hC
    have HC1 := Lib.hid hC1
    have HTS := Lib.hid hTs
    clear hT hC hC1 hTs
    go_enter Tryz.func38, Tryz.ntmps38
    go_wp2_with (first
      | (go_at_call 56; with_reducible refine HCK.out.mono ?_; rintro e w2 ⟨rfl, hx2⟩; rw [HK.out]; obtain ⟨d0, d1, d2, d3, d4, d5, d6⟩ := hd7 hx2; have HX2 := Lib.hid hx2; clear hx2)
      | (go_at_call 57; have hl3 := laid_ok HX2.out h HN.out; rw [HC.out] at hl3; with_reducible refine hl3.mono ?_; clear hl3; rintro e w3 ⟨rfl, hx3⟩; rw [HT.out, HCC.out]; have HX3 := Lib.hid (hx3.alloc (.cells Tryz.zeroCells109 109)); clear hx3)
      | (refine wpList_store_mid rfl 109 _ _ rfl w3.heap.size 0 C rfl rfl (by rw [hCs]; exact pt_there HX3.out size136) (by rw [hCs]; exact info136) HC1.out ?_
         have hx4 := setCells_all HX3.out (hCs.trans size136.symm)
         have hcv : (convert 89 9 (.slice (some ⟨w3.heap.size, 0, none⟩) 128 128)).run Tryz.prog (w3.alloc (.cells Tryz.zeroCells109 109) |>.setCells w3.heap.size 0 C.toList) = .ok (.string T) (w3.alloc (.cells Tryz.zeroCells109 109) |>.setCells w3.heap.size 0 C.toList) := by
           rw [← HCC.out] at hx4
           have := conv_block hx4
           rw [HTS.out, HCC.out] at this
           exact this
         have HX4 := Lib.hid hx4
         clear hx4))
    go_ret2
    exact ⟨rfl, HX4.out.tail.tail⟩
end Go.Proofs.YtmkpglabiikdeaaGreat

