/-
  posthouse/piece.Put and the document's bytes of a piece, walked.
-/
import Derived.Test.YtmkpglabiikdeaaGreatDoorPcP
import Derived.Test.YtmkpglabiikdeaaGreatDoorFixed
import Derived.Test.YtmkpglabiikdeaaGreatDoorDiskO
import Derived.Test.YtmkpglabiikdeaaGreatDoorRef
import Derived.Deep.MidRow
namespace Go.Proofs.YtmkpglabiikdeaaGreatDoor
open Go.RowKit PH

def Pc.arr (p : Pc) : Array Value := #[.int .i64 p.epoch, .int .i64 p.seq, .int .i64 p.part, .int .i64 p.parts, .string p.data]
theorem Pc.val_arr (p : Pc) : p.val = .agg p.arr := rfl
def noPc : Pc := ⟨0, 0, 0, 0, ByteArray.empty⟩
theorem infoPc : (Tryz.prog.info? 23).map (·.size) = some 5 := by kernel_rfl
theorem pc_one (p : Pc) : p.arr.all (·.oneCell') = true := all_oneCell_toArray (cs := [.int .i64 p.epoch, .int .i64 p.seq, .int .i64 p.part, .int .i64 p.parts, .string p.data]) (fun v hv => by
  simp at hv
  rcases hv with rfl | rfl | rfl | rfl | rfl <;> rfl)
theorem pt_there {E w : World} {L : List HP} {b n : Nat} {c : Array Value} {ty : TypeId} (x : Sat E w (pt b (.cells c ty) :: L)) (hn : c.size = n) : w.there b 0 n := fun j hj => by
  rw [Nat.zero_add, cell_blk x.at, Array.getElem?_eq_getElem (by omega)]
  exact ⟨rfl, frozen_blk x.at j⟩
theorem putCells_all {vs : List Value} {c : Array Value} (h : vs.length = c.size) : putCells c 0 vs = vs.toArray := by
  apply Array.ext'
  have h1 := putCells_take vs c 0 (by omega)
  rw [Nat.zero_add, List.take_zero, List.nil_append, List.take_of_length_le (by rw [Array.length_toList, putCells_size]; omega)] at h1
  simpa using h1
theorem setCells_all {E w : World} {L : List HP} {q : Nat} {c C : Array Value} {ty : TypeId} (x : Sat E w (pt q (.cells c ty) :: L)) (h : C.size = c.size) : Sat E (w.setCells q 0 C.toList) (pt q (.cells C ty) :: L) := by
  have := Sat.setCells C.toList 0 _ _ x
  rwa [putCells_all (by rw [Array.length_toList]; exact h), Array.toArray_toList] at this
theorem wr_new {E W : World} {L : List HP} (x : Sat E W L) : Sat E (W.alloc (.cells #[.slice none 0 0] 76)) (isWr W.heap.size [] :: L) :=
  wr_close (l := []) ((x.rowNil 5 1).alloc (.cells #[.slice none 0 0] 76))
theorem zp {E w : World} {L : List HP} (x : Sat E w L) : Sat E (w.alloc (.cells #[.int .i64 0, .int .i64 0, .int .i64 0, .int .i64 0, .string ByteArray.empty] 23)) (pt w.heap.size (.cells noPc.arr 23) :: L) := x.alloc _
theorem pc5 {E w : World} {L : List HP} {q : Nat} {p : Pc} {ty : TypeId} (x : Sat E w (pt q (.cells p.arr ty) :: L)) : w.cell? ⟨q, 0, none⟩ = some (.int .i64 p.epoch) ∧ w.cell? ⟨q, 1, none⟩ = some (.int .i64 p.seq) ∧ w.cell? ⟨q, 2, none⟩ = some (.int .i64 p.part) ∧ w.cell? ⟨q, 3, none⟩ = some (.int .i64 p.parts) ∧ w.cell? ⟨q, 4, none⟩ = some (.string p.data) :=
  ⟨cell_blk x.at 0, cell_blk x.at 1, cell_blk x.at 2, cell_blk x.at 3, cell_blk x.at 4⟩
theorem load_pc {E w : World} {L : List HP} {q : Nat} {p : Pc} (x : Sat E w (pt q (.cells p.arr 23) :: L)) : (loadVar 23 ⟨q, 0, none⟩).run Tryz.prog w = .ok (.agg p.arr) w := by
  obtain ⟨d0, d1, d2, d3, d4⟩ := pc5 x
  go_simp
  rfl
theorem wpList_store_pc {E w : World} {L : List HP} {ops : Array Oper} {rest : List Oper} {op : Oper} {a : Act} {Q : Exit → Act → World → Prop} {q : Nat} {U : Pc} (S : Sat E w (pt q (.cells U.arr 23) :: L)) (V : Pc)
    (hop : op.guard = none ∧ ∃ x y : Operand, op.op = .store 23 x y ∧ a.eval x = .pointer (some ⟨q, 0, none⟩) ∧ a.eval y = .agg #[.int .i64 V.epoch, .int .i64 V.seq, .int .i64 V.part, .int .i64 V.parts, .string V.data])
    (h : ∀ w', Sat E w' (pt q (.cells V.arr 23) :: L) → wpList Tryz.prog ops Q rest (a.put op.dst undef) w') : wpList Tryz.prog ops Q (op :: rest) a w :=
  by
  obtain ⟨hgd, x, y, ho, hx, hy⟩ := hop
  exact wpList_store_mid hgd 23 x y ho q 0 V.arr hx hy (pt_there S rfl) infoPc (pc_one V) (h _ (setCells_all (C := V.arr) S rfl))

def putB (p : Pc) : ByteArray := if okPc p then pcB p else ByteArray.empty
theorem putB_yes {p : Pc} (k : okPc p = true) : putB p = pcB p := by unfold putB; rw [if_pos k]
theorem putB_no {p : Pc} (k : okPc p = false) : putB p = ByteArray.empty := by unfold putB; rw [k]; rfl

set_option maxRecDepth 100000 in
set_option maxHeartbeats 3200000 in
theorem pcPut_ok {E W : World} {L : List HP} (x : Sat E W L) (p : Pc) (hs : p.data.size ≤ 9223372036854775807) (hq : p.seq ≤ 9223372036854775807) :
    Calls Tryz.prog 11 #[.agg p.arr] W fun e w' => e = .returned (.tuple #[.string (putB p), .int .i64 (chk p)]) ∧ Sat E w' L := by
  have hx1 := x.alloc (.cells p.arr 23)
  obtain ⟨q, hq1⟩ : ∃ q, W.heap.size = q := ⟨_, rfl⟩
  rw [hq1] at hx1
  have hck : ∀ w, Calls Tryz.prog 13 #[.agg p.arr] w _ := fun w => check_ok p w hs
  have HCK := Lib.hid hck
  clear hck x
  cases k : okPc p with
  | false =>
    rw [putB_no k]
    have hc : chk p = 14 := by unfold chk; rw [k]; rfl
    rw [hc]
    have HC := Lib.hid hc
    obtain ⟨d0, d1, d2, d3, d4⟩ := pc5 hx1
    have HX1 := Lib.hid hx1
    clear hx1 k hc
    obtain ⟨p0, p1, p2, p3, p4⟩ := p
    unfold Pc.arr at HCK HX1 ⊢
    dsimp only at *
    go_enter Tryz.func11, Tryz.ntmps11
    go_wp2_with (go_at_call 13; with_reducible refine (HCK.out _).mono ?_; rintro e w2 ⟨rfl, hb2⟩; rw [HC.out]; have HX2 := Lib.hid (HX1.out.ofBelow hb2); clear hb2)
    go_ret2
    exact ⟨rfl, HX2.out.tail⟩
  | true =>
    rw [putB_yes k]
    have hc : chk p = 0 := by unfold chk; rw [k]; rfl
    rw [hc]
    have HC := Lib.hid hc
    have hn := okPc_nat k hq
    obtain ⟨e, he⟩ : ∃ e, p.epoch.toNat = e := ⟨_, rfl⟩
    obtain ⟨sq, hsq⟩ : ∃ e, p.seq.toNat = e := ⟨_, rfl⟩
    obtain ⟨t, ht⟩ : ∃ e, p.part.toNat = e := ⟨_, rfl⟩
    obtain ⟨n, hnn⟩ : ∃ e, p.parts.toNat = e := ⟨_, rfl⟩
    rw [he, hsq, ht, hnn] at hn
    have e1 := hn.e1
    have e2 := hn.q1
    have e3 := hn.t1
    have e4 := hn.n1
    have d2 := hn.d2
    obtain ⟨d, hd⟩ : ∃ d, p.data.size = d := ⟨_, rfl⟩
    rw [hd] at d2
    obtain ⟨m, hm⟩ : ∃ m, 100 - d = m := ⟨_, rfl⟩
    have hmi : (100 : Int) - (d : Int) = (m : Int) := by omega
    have hH : numL e 4 ++ numL sq 8 ++ numL t 4 ++ numL n 4 ++ numL d 4 = pcH p := by unfold pcH; rw [he, hsq, ht, hnn, hd]
    have z : (p.data ++ zeros m).size = 100 := by rw [ByteArray.size_append, zeros_size]; omega
    have hF : pcH p ++ lst (p.data ++ zeros m) ++ List.replicate (padN (p.data ++ zeros m).size) 0 = pcF p := by
      rw [z, show padN 100 = 0 from rfl, List.replicate_zero, List.append_nil, lst_append]
      unfold pcF
      rw [hd, hm, List.append_assoc]
      congr 2
      simp [lst, zeros]
    obtain ⟨S, hS⟩ : ∃ S, sumOf (bs (pcF p)) = S := ⟨_, rfl⟩
    have hSl : S < 4294967296 := by rw [← hS]; exact sumOf_lt _
    have hW : pcF p ++ numL S 4 = pcS p := by unfold pcS; rw [hS]
    have hB : bs (pcS p) = pcB p := rfl
    have hfl : (pcF p).length = 124 := pcF_len hn.d2
    have hhl : (pcH p).length = 24 := pcH_len p
    have HN := Lib.hid hn
    have HH := Lib.hid hH
    have HF := Lib.hid hF
    have HS := Lib.hid hS
    have HWW := Lib.hid hW
    have HB := Lib.hid hB
    have HFL := Lib.hid hfl
    have HHL := Lib.hid hhl
    have HM := Lib.hid hm
    rw [show p.arr = #[.int .i64 e, .int .i64 sq, .int .i64 t, .int .i64 n, .string p.data] from by unfold Pc.arr; rw [e1, e2, e3, e4]] at hx1 HCK ⊢
    obtain ⟨T, hT⟩ : ∃ T, p.data = T := ⟨_, rfl⟩
    rw [hT] at hx1 HCK HF hd z ⊢
    have Z := Lib.hid z
    have hzs : (zeros m).size = m := zeros_size m
    have hlim : ¬ 9223372036854775807 < d + m := by omega
    have hc5 : ∀ {M : List HP} {w : World}, Sat E w (pt q (.cells #[.int .i64 e, .int .i64 sq, .int .i64 t, .int .i64 n, .string T] 23) :: M) → w.cell? ⟨q, 0, none⟩ = some (.int .i64 e) ∧ w.cell? ⟨q, 1, none⟩ = some (.int .i64 sq) ∧ w.cell? ⟨q, 2, none⟩ = some (.int .i64 t) ∧ w.cell? ⟨q, 3, none⟩ = some (.int .i64 n) ∧ w.cell? ⟨q, 4, none⟩ = some (.string T) := fun y => ⟨cell_blk y.at 0, cell_blk y.at 1, cell_blk y.at 2, cell_blk y.at 3, cell_blk y.at 4⟩
    have HC5 : Hid (∀ (M : List HP) (w : World), Sat E w (pt q (.cells #[.int .i64 e, .int .i64 sq, .int .i64 t, .int .i64 n, .string T] 23) :: M) → _) := Lib.hid fun M w => hc5
    have HX1 := Lib.hid hx1
    clear hx1 he hsq ht hnn hH hF hS hW hB hfl hhl hc hc5 hT hn e1 e2 e3 e4 k hs z hm
    go_enter Tryz.func11, Tryz.ntmps11
    go_wp2_with (first
      | (go_at_call 13; with_reducible refine (HCK.out _).mono ?_; rintro e0 w2 ⟨rfl, hb2⟩; rw [HC.out]; have hx2 := wr_new (HX1.out.ofBelow hb2); obtain ⟨b, hb⟩ : ∃ b, w2.heap.size = b := ⟨_, rfl⟩; rw [hb] at hx2; obtain ⟨d0, d1, d2, d3, d4⟩ := HC5.out _ _ hx2.p1; have HX2 := Lib.hid hx2; clear hx2 hb2)
      | (go_at_call 38; with_reducible refine (wU32_ok HX2.out (by simp) e HN.out.e2).mono ?_; rintro e3 w3 ⟨rfl, hx3⟩; rw [List.nil_append] at hx3; clear d0 d1 d2 d3 d4; obtain ⟨d0, d1, d2, d3, d4⟩ := HC5.out _ _ hx3.p1; have HX3 := Lib.hid hx3; clear hx3)
      | (go_at_call 39; with_reducible refine (wU64_ok HX3.out (by simp [numL_len]) sq HN.out.q2).mono ?_; rintro e4 w4 ⟨rfl, hx4⟩; clear d0 d1 d2 d3 d4; obtain ⟨d0, d1, d2, d3, d4⟩ := HC5.out _ _ hx4.p1; have HX4 := Lib.hid hx4; clear hx4)
      | (go_at_call 38; with_reducible refine (wU32_ok HX4.out (by simp [numL_len]) t HN.out.t2).mono ?_; rintro e5 w5 ⟨rfl, hx5⟩; clear d0 d1 d2 d3 d4; obtain ⟨d0, d1, d2, d3, d4⟩ := HC5.out _ _ hx5.p1; have HX5 := Lib.hid hx5; clear hx5)
      | (go_at_call 38; with_reducible refine (wU32_ok HX5.out (by simp [numL_len]) n HN.out.n2).mono ?_; rintro e6 w6 ⟨rfl, hx6⟩; clear d0 d1 d2 d3 d4; obtain ⟨d0, d1, d2, d3, d4⟩ := HC5.out _ _ hx6.p1; have HX6 := Lib.hid hx6; clear hx6)
      | (go_at_call 38; with_reducible refine (wU32_ok HX6.out (by simp [numL_len]) d (by omega)).mono ?_; rintro e7 w7 ⟨rfl, hx7⟩; rw [HH.out] at hx7; clear d0 d1 d2 d3 d4; have hx8 := hx7.drew; obtain ⟨-, -, -, -, d4⟩ := HC5.out _ _ hx8.p1; have HX8 := Lib.hid hx8; clear hx7 hx8))
    refine wp_region_planL [(0, true), (1, true), (2, true), (3, true), (4, true), (5, true), (6, true), (7, false), (8, true), (9, false)]
      [(10, fun w1 => w1.cell? ⟨q, 4, none⟩ = some (.string T))] (by kernel_rfl) (by kernel_rfl) (by intro c a d v w h; cases d <;> exact h) ?_ ?_
    · exact ⟨d4, trivial⟩
    simp only [planOps, List.getElem?_cons_zero, List.getElem?_cons_succ]
    iterate 7 (first | ((apply plan_pure rfl; (intro w1; go_simp; try go_bits); with_reducible rfl); try simp only [Act.put, List.setIfInBounds_toArray, List.set_cons_zero, List.set_cons_succ]) | ((refine' plan_load 0 rfl (by kernel_rfl) rfl ?_ ?_; rotate_left; (intro w1 hw1; go_simp; with_reducible rfl)); try simp only [Act.put, List.setIfInBounds_toArray, List.set_cons_zero, List.set_cons_succ]))
    refine plan_loud rfl (fun K hK => ?_); go_simp
    refine (repeat_ok m (by omega) _).mono ?_
    rintro e9 w9 ⟨rfl, hb9⟩
    dsimp only
    have HX9 := Lib.hid (HX8.out.ofBelow hb9)
    clear hb9
    refine hK _ _ ⟨(HC5.out _ _ HX9.out.p1).2.2.2.2, trivial⟩ ?_
    clear hK K d4
    try simp only [Act.put, List.setIfInBounds_toArray, List.set_cons_zero, List.set_cons_succ]
    iterate 1 (first | ((apply plan_pure rfl; (intro w1; go_simp; try go_bits); with_reducible rfl); try simp only [Act.put, List.setIfInBounds_toArray, List.set_cons_zero, List.set_cons_succ]) | ((refine' plan_load 0 rfl (by kernel_rfl) rfl ?_ ?_; rotate_left; (intro w1 hw1; go_simp; with_reducible rfl)); try simp only [Act.put, List.setIfInBounds_toArray, List.set_cons_zero, List.set_cons_succ]))
    refine plan_loud rfl (fun K hK => ?_); go_simp
    refine (wFixed_ok HX9.out (by rw [HHL.out]; omega) (T ++ zeros m) (by rw [Z.out]; omega)).mono ?_
    rintro e10 w10 ⟨rfl, hx10⟩
    rw [HF.out] at hx10
    have HX10 := Lib.hid hx10
    clear hx10
    dsimp only
    refine hK _ _ ⟨(HC5.out _ _ HX10.out.p1).2.2.2.2, trivial⟩ ?_
    clear hK K
    try simp only [Act.put, List.setIfInBounds_toArray, List.set_cons_zero, List.set_cons_succ]
    refine plan_nil ?_
    go_wp2_with (first
      | (go_at_call 43; with_reducible refine (wText_ok HX10.out).mono ?_; rintro e11 w11 ⟨rfl, rfl⟩)
      | (go_at_call 42; refine (sumOf_ok HX10.out (bs (pcF p)) (by rw [bs_size, HFL.out]; omega)).mono ?_; rintro e12 w12 ⟨rfl, hx12⟩; rw [HS.out]; have HX12 := Lib.hid hx12; clear hx12)
      | (go_at_call 38; with_reducible refine (wU32_ok HX12.out (by rw [HFL.out]; omega) S hSl).mono ?_; rintro e13 w13 ⟨rfl, hx13⟩; rw [HWW.out] at hx13; have HX13 := Lib.hid hx13; clear hx13)
      | (go_at_call 43; with_reducible refine (wText_ok HX13.out).mono ?_; rintro e14 w14 ⟨rfl, rfl⟩; rw [HB.out]))
    go_ret2
    exact ⟨rfl, HX13.out.tail.tail⟩

set_option maxRecDepth 100000 in
set_option maxHeartbeats 3200000 in
theorem refPc_ok {E W : World} {L : List HP} (x : Sat E W L) (p : Pc) {e sq t n : Nat} (hn : NatPc p e sq t n) : Calls Tryz.prog 15 #[.agg p.arr] W fun e w' => e = .returned (.string (pcB p)) ∧ Sat E w' L := by
  have hx1 := x.alloc (.cells p.arr 23)
  obtain ⟨q, hq1⟩ : ∃ q, W.heap.size = q := ⟨_, rfl⟩
  rw [hq1] at hx1
  have hH : numL e 4 ++ numL sq 8 ++ numL t 4 ++ numL n 4 ++ numL p.data.size 4 = pcH p := by unfold pcH; rw [hn.e1, hn.q1, hn.t1, hn.n1]; rfl
  have hhl : (pcH p).length = 24 := pcH_len p
  have hp0 : bs (pcH p) ++ p.data = bs (pcH p ++ lst p.data) := by rw [bs_append, bs_lst]
  have hstep : ∀ k, bs (pcH p ++ lst p.data ++ List.replicate k 0) ++ ⟨#[0]⟩ = bs (pcH p ++ lst p.data ++ List.replicate (k + 1) 0) := fun k => by
    rw [List.replicate_succ', ← List.append_assoc, bs_append _ [0]]
    rfl
  have hsize : ∀ k, (bs (pcH p ++ lst p.data ++ List.replicate k 0)).size = 24 + p.data.size + k := fun k => by
    rw [bs_size, List.length_append, List.length_append, pcH_len, lst_len, List.length_replicate]
  have hF : pcH p ++ lst p.data ++ List.replicate (100 - p.data.size) 0 = pcF p := rfl
  obtain ⟨S, hS⟩ : ∃ S, sumOf (bs (pcF p)) = S := ⟨_, rfl⟩
  have hSl : S < 4294967296 := by rw [← hS]; exact sumOf_lt _
  have hB : bs (pcF p) ++ bs (numL S 4) = pcB p := by unfold pcB pcS; rw [bs_append, hS]
  have hfs : (bs (pcF p)).size = 124 := by rw [bs_size, pcF_len hn.d2]
  have e1 := hn.e1
  have e2 := hn.q1
  have e3 := hn.t1
  have e4 := hn.n1
  have d2 := hn.d2
  have HN := Lib.hid hn
  rw [show p.arr = #[.int .i64 e, .int .i64 sq, .int .i64 t, .int .i64 n, .string p.data] from by unfold Pc.arr; rw [e1, e2, e3, e4]] at hx1 ⊢
  obtain ⟨H, hHe⟩ : ∃ H, pcH p = H := ⟨_, rfl⟩
  obtain ⟨F, hFe⟩ : ∃ F, pcF p = F := ⟨_, rfl⟩
  obtain ⟨B, hBe⟩ : ∃ B, pcB p = B := ⟨_, rfl⟩
  obtain ⟨T, hT⟩ : ∃ T, p.data = T := ⟨_, rfl⟩
  obtain ⟨d, hd⟩ : ∃ d, T.size = d := ⟨_, rfl⟩
  rw [hHe, hT, hd] at hH
  rw [hHe] at hhl
  rw [hHe, hT] at hp0 hstep
  rw [hHe, hT, hd] at hsize
  rw [hHe, hT, hd, hFe] at hF
  rw [hFe] at hS hB hfs
  rw [hBe] at hB ⊢
  rw [hT] at hx1 d2 ⊢
  rw [hd] at d2
  have hc5 : ∀ {M : List HP} {w : World}, Sat E w (pt q (.cells #[.int .i64 e, .int .i64 sq, .int .i64 t, .int .i64 n, .string T] 23) :: M) → w.cell? ⟨q, 0, none⟩ = some (.int .i64 e) ∧ w.cell? ⟨q, 1, none⟩ = some (.int .i64 sq) ∧ w.cell? ⟨q, 2, none⟩ = some (.int .i64 t) ∧ w.cell? ⟨q, 3, none⟩ = some (.int .i64 n) ∧ w.cell? ⟨q, 4, none⟩ = some (.string T) := fun y => ⟨cell_blk y.at 0, cell_blk y.at 1, cell_blk y.at 2, cell_blk y.at 3, cell_blk y.at 4⟩
  have HC5 : Hid (∀ (M : List HP) (w : World), Sat E w (pt q (.cells #[.int .i64 e, .int .i64 sq, .int .i64 t, .int .i64 n, .string T] 23) :: M) → _) := Lib.hid fun M w => hc5
  have hx1 := hx1.drew
  have c1 := hc5 hx1
  have HX1 := Lib.hid hx1
  have HH := Lib.hid hH
  have HHL := Lib.hid hhl
  have HP0 := Lib.hid hp0
  have HST := Lib.hid hstep
  have HSI := Lib.hid hsize
  have HF := Lib.hid hF
  have HS := Lib.hid hS
  have HB := Lib.hid hB
  have HFS := Lib.hid hfs
  clear x hx1 hc5 hH hhl hp0 hstep hsize hF hS hB hfs hHe hFe hBe hT hn e1 e2 e3 e4
  obtain ⟨t0, ht0⟩ : ∃ t, bs (numL e 4) = t := ⟨_, rfl⟩
  have hz0 : t0.size = 4 := by rw [← ht0, bs_size, numL_len]
  have T0 := Lib.hid ht0
  clear ht0
  obtain ⟨t1, ht1⟩ : ∃ t, bs (numL sq 8) = t := ⟨_, rfl⟩
  have hz1 : t1.size = 8 := by rw [← ht1, bs_size, numL_len]
  have T1 := Lib.hid ht1
  clear ht1
  obtain ⟨t2, ht2⟩ : ∃ t', bs (numL t 4) = t' := ⟨_, rfl⟩
  have hz2 : t2.size = 4 := by rw [← ht2, bs_size, numL_len]
  have T2 := Lib.hid ht2
  clear ht2
  obtain ⟨t3, ht3⟩ : ∃ t, bs (numL n 4) = t := ⟨_, rfl⟩
  have hz3 : t3.size = 4 := by rw [← ht3, bs_size, numL_len]
  have T3 := Lib.hid ht3
  clear ht3
  obtain ⟨t4, ht4⟩ : ∃ t, bs (numL d 4) = t := ⟨_, rfl⟩
  have hz4 : t4.size = 4 := by rw [← ht4, bs_size, numL_len]
  have T4 := Lib.hid ht4
  clear ht4
  have hlim : ¬ 9223372036854775807 < 24 + d := by omega
  go_enter Tryz.func15, Tryz.ntmps15
  go_wp2
  refine wp_region_planL [(0, true), (1, true), (3, true), (4, true), (7, true), (8, true), (11, true), (12, true), (15, true), (16, true), (17, true), (20, true), (21, true), (2, false), (5, false), (6, true), (9, false), (10, true), (13, false), (14, true), (18, false), (19, true), (22, true), (23, true)]
    [(24, fun w1 => w1.cell? ⟨q, 0, none⟩ = some (.int .i64 e) ∧ w1.cell? ⟨q, 1, none⟩ = some (.int .i64 sq) ∧ w1.cell? ⟨q, 2, none⟩ = some (.int .i64 t) ∧ w1.cell? ⟨q, 3, none⟩ = some (.int .i64 n) ∧ w1.cell? ⟨q, 4, none⟩ = some (.string T))] (by kernel_rfl) (by kernel_rfl) (by intro c a d v w h; cases d <;> exact h) ?_ ?_
  · exact ⟨c1, trivial⟩
  simp only [planOps, List.getElem?_cons_zero, List.getElem?_cons_succ]
  iterate 13 (first | ((apply plan_pure rfl; (intro w1; go_simp; try go_bits); with_reducible rfl); try simp only [Act.put, List.setIfInBounds_toArray, List.set_cons_zero, List.set_cons_succ]) | ((refine' plan_load 0 rfl (by kernel_rfl) rfl ?_ ?_; rotate_left; (intro w1 hw1; go_simp; with_reducible rfl)); try simp only [Act.put, List.setIfInBounds_toArray, List.set_cons_zero, List.set_cons_succ]))
  refine plan_loud rfl (fun K hK => ?_); go_simp
  refine (refNum_ok HX1.out e 4 (by have := HN.out.e2; omega) (by omega)).mono ?_
  rintro e10 w10 ⟨rfl, hx10⟩
  dsimp only
  rw [T0.out]
  have HX10 := Lib.hid hx10
  refine hK _ _ ⟨HC5.out _ _ hx10, trivial⟩ ?_
  clear hK K hx10
  try simp only [Act.put, List.setIfInBounds_toArray, List.set_cons_zero, List.set_cons_succ]
  refine plan_loud rfl (fun K hK => ?_); go_simp
  refine (refNum_ok HX10.out sq 8 (by have := HN.out.q2; omega) (by omega)).mono ?_
  rintro e11 w11 ⟨rfl, hx11⟩
  dsimp only
  rw [T1.out]
  have HX11 := Lib.hid hx11
  refine hK _ _ ⟨HC5.out _ _ hx11, trivial⟩ ?_
  clear hK K hx11
  try simp only [Act.put, List.setIfInBounds_toArray, List.set_cons_zero, List.set_cons_succ]
  iterate 1 (first | ((apply plan_pure rfl; (intro w1; go_simp; try go_bits); with_reducible rfl); try simp only [Act.put, List.setIfInBounds_toArray, List.set_cons_zero, List.set_cons_succ]) | ((refine' plan_load 0 rfl (by kernel_rfl) rfl ?_ ?_; rotate_left; (intro w1 hw1; go_simp; with_reducible rfl)); try simp only [Act.put, List.setIfInBounds_toArray, List.set_cons_zero, List.set_cons_succ]))
  refine plan_loud rfl (fun K hK => ?_); go_simp
  refine (refNum_ok HX11.out t 4 (by have := HN.out.t2; omega) (by omega)).mono ?_
  rintro e12 w12 ⟨rfl, hx12⟩
  dsimp only
  rw [T2.out]
  have HX12 := Lib.hid hx12
  refine hK _ _ ⟨HC5.out _ _ hx12, trivial⟩ ?_
  clear hK K hx12
  try simp only [Act.put, List.setIfInBounds_toArray, List.set_cons_zero, List.set_cons_succ]
  iterate 1 (first | ((apply plan_pure rfl; (intro w1; go_simp; try go_bits); with_reducible rfl); try simp only [Act.put, List.setIfInBounds_toArray, List.set_cons_zero, List.set_cons_succ]) | ((refine' plan_load 0 rfl (by kernel_rfl) rfl ?_ ?_; rotate_left; (intro w1 hw1; go_simp; with_reducible rfl)); try simp only [Act.put, List.setIfInBounds_toArray, List.set_cons_zero, List.set_cons_succ]))
  refine plan_loud rfl (fun K hK => ?_); go_simp
  refine (refNum_ok HX12.out n 4 (by have := HN.out.n2; omega) (by omega)).mono ?_
  rintro e13 w13 ⟨rfl, hx13⟩
  dsimp only
  rw [T3.out]
  have HX13 := Lib.hid hx13
  refine hK _ _ ⟨HC5.out _ _ hx13, trivial⟩ ?_
  clear hK K hx13
  try simp only [Act.put, List.setIfInBounds_toArray, List.set_cons_zero, List.set_cons_succ]
  iterate 1 (first | ((apply plan_pure rfl; (intro w1; go_simp; try go_bits); with_reducible rfl); try simp only [Act.put, List.setIfInBounds_toArray, List.set_cons_zero, List.set_cons_succ]) | ((refine' plan_load 0 rfl (by kernel_rfl) rfl ?_ ?_; rotate_left; (intro w1 hw1; go_simp; with_reducible rfl)); try simp only [Act.put, List.setIfInBounds_toArray, List.set_cons_zero, List.set_cons_succ]))
  refine plan_loud rfl (fun K hK => ?_); go_simp
  refine (refNum_ok HX13.out d 4 (by skip; omega) (by omega)).mono ?_
  rintro e14 w14 ⟨rfl, hx14⟩
  dsimp only
  rw [T4.out]
  have HX14 := Lib.hid hx14
  refine hK _ _ ⟨HC5.out _ _ hx14, trivial⟩ ?_
  clear hK K hx14
  try simp only [Act.put, List.setIfInBounds_toArray, List.set_cons_zero, List.set_cons_succ]
  iterate 3 (first | ((apply plan_pure rfl; (intro w1; go_simp; try go_bits); with_reducible rfl); try simp only [Act.put, List.setIfInBounds_toArray, List.set_cons_zero, List.set_cons_succ]) | ((refine' plan_load 0 rfl (by kernel_rfl) rfl ?_ ?_; rotate_left; (intro w1 hw1; go_simp; with_reducible rfl)); try simp only [Act.put, List.setIfInBounds_toArray, List.set_cons_zero, List.set_cons_succ]))
  refine plan_nil ?_
  have hcat : t0 ++ t1 ++ t2 ++ t3 ++ t4 ++ T = bs (H ++ lst T ++ List.replicate 0 0) := by
    rw [← T0.out, ← T1.out, ← T2.out, ← T3.out, ← T4.out, List.replicate_zero, List.append_nil, ← HP0.out, ← HH.out]
    simp only [bs_append]
  rw [hcat]
  clear hcat c1
  go_wp2
  go_loop [3] (fun s => ∃ k : Nat, k ≤ 100 - d ∧ s = .string (bs (H ++ lst T ++ List.replicate k 0))) (fun s => 200 - (match s with | .string s => s.size | _ => 0))
  case atStart => exact ⟨0, by omega, rfl⟩
  case round =>
    obtain ⟨k, hk, rfl⟩ := hrel
    have hsi := HSI.out k
    have hst := HST.out k
    have hsi1 := HSI.out (k + 1)
    have hfe := HF.out
    by_cases hlt : k < 100 - d
    · obtain ⟨P, hP⟩ : ∃ P, bs (H ++ lst T ++ List.replicate k 0) = P := ⟨_, rfl⟩
      obtain ⟨P1, hP1⟩ : ∃ P, bs (H ++ lst T ++ List.replicate (k + 1) 0) = P := ⟨_, rfl⟩
      rw [hP] at hsi hst ⊢
      rw [hP1] at hst hsi1
      have HP1 := Lib.hid hP1
      clear hP hP1 hfe
      go_wp2
      go_round
      case rel => exact ⟨k + 1, by omega, by rw [HP1.out]⟩
      case measure => dsimp only; omega
    · obtain rfl : k = 100 - d := by omega
      rw [hfe] at hsi ⊢
      have hfs := HFS.out
      have hSl2 := hSl
      have HSE := Lib.hid HS.out
      obtain ⟨P, hP⟩ : ∃ P, bs F = P := ⟨_, rfl⟩
      obtain ⟨N, hN⟩ : ∃ P, bs (numL S 4) = P := ⟨_, rfl⟩
      have hNs : N.size = 4 := by rw [← hN, bs_size, numL_len]
      have hb := HB.out
      rw [hP] at hsi hfs hb HSE ⊢
      rw [hN] at hb
      have HNN := Lib.hid hN
      clear hP hN hst hsi1 hfe
      go_wp2_with (first
        | (go_at_call 53; refine (refSum_ok P (by omega) _).mono ?_; rintro e8 w8 ⟨rfl, rfl⟩; rw [HSE.out])
        | (go_at_call 52; refine (refNum_ok HX14.out S 4 (by omega) (by omega)).mono ?_; rintro e9 w9 ⟨rfl, hx9⟩; rw [HNN.out]; have HX9 := Lib.hid hx9; clear hx9))
      go_ret
      exact ⟨rfl, HX9.out.tail⟩
end Go.Proofs.YtmkpglabiikdeaaGreatDoor
