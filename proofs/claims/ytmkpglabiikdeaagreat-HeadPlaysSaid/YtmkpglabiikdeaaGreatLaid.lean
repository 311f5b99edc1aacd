/-
  posthouse/head: a head's sector, walked.
-/
import Derived.Test.YtmkpglabiikdeaaGreatHeadB
import Derived.Test.YtmkpglabiikdeaaGreatFixed
import Derived.Test.YtmkpglabiikdeaaGreatDiskO
import Derived.Deep.MidRow
namespace Go.Proofs.YtmkpglabiikdeaaGreat
open Go.RowKit PH

theorem info136 : (Tryz.prog.info? 109).map (·.size) = some 128 := by kernel_rfl
theorem size136 : Tryz.zeroCells109.size = 128 := by kernel_rfl
theorem arrayAt_ok (a : Addr) (c : Nat) (w : World) : (Instr.arrayAt 109 (.slice (some a) 128 c)).run Tryz.prog w = .ok (.pointer (some a)) w := by
  simp [Instr.arrayAt, run_underlying Tryz.underlying109, run_underlying Tryz.underlying108]
theorem bytesAt_range {E w : World} {L : List HP} {g : Nat} {T : ByteArray} (x : Sat E w (bytesAt g T :: L)) : w.rangeAt g 0 (cellsB (lst T)) := fun j v hj => by
  have hl := (List.getElem?_eq_some_iff.1 hj).1
  rw [cellsB_len, lst_len] at hl
  rw [Nat.zero_add, bytesAt_get x hl, ← hj]
  simp [cellsB, lst_get T hl]
theorem pt_there {E w : World} {L : List HP} {b n : Nat} {c : Array Value} {ty : TypeId} (x : Sat E w (pt b (.cells c ty) :: L)) (hn : c.size = n) : w.there b 0 n := fun j hj => by
  rw [Nat.zero_add, cell_blk x.at, Array.getElem?_eq_getElem (by omega)]
  exact ⟨rfl, frozen_blk x.at j⟩

theorem magic_bytes : numL 1346913329 4 = [80, 72, 68, 49] := by decide
theorem wr_new {E W : World} {L : List HP} (x : Sat E W L) : Sat E (W.alloc (.cells #[.slice none 0 0] 132)) (isWr W.heap.size [] :: L) :=
  wr_close (l := []) ((x.rowNil 5 1).alloc (.cells #[.slice none 0 0] 132))

set_option maxRecDepth 100000 in
set_option maxHeartbeats 3200000 in
theorem laid_ok {E W : World} {L : List HP} (x : Sat E W L) (h : Hd) {g e s a z n p : Nat} (hn : NatHd h g e s a z n p) : Calls Tryz.prog 57 #[.agg h.cells] W fun e w' => e = .returned (.agg (cellsB (lst (headB h))).toArray) ∧ Sat E w' L := by
  have hc : h.cells = #[.int .i64 g, .int .i64 e, .int .i64 s, .int .i64 a, .int .i64 z, .int .i64 n, .int .i64 p] := by
    unfold Hd.cells; rw [hn.g1, hn.e1, hn.s1, hn.a1, hn.z1, hn.n1, hn.p1]
  rw [hc]
  have HN := Lib.hid hn
  have hPP : [80, 72, 68, 49] ++ numL g 8 ++ numL e 4 ++ numL s 4 ++ numL a 4 ++ numL z 4 ++ numL n 8 ++ numL p 4 = headP h := by
    unfold headP; rw [hn.g1, hn.e1, hn.s1, hn.a1, hn.z1, hn.n1, hn.p1]; rfl
  have HPP := Lib.hid hPP
  obtain ⟨S, hS⟩ : ∃ S, sumOf (bs (headP h)) = S := ⟨_, rfl⟩
  have HSS := Lib.hid hS
  have HSL : Hid (S < 4294967296) := Lib.hid (hS ▸ sumOf_lt _)
  have hsl : S < 4294967296 := HSL.out
  have hSW : [80, 72, 68, 49] ++ numL g 8 ++ numL e 4 ++ numL s 4 ++ numL a 4 ++ numL z 4 ++ numL n 8 ++ numL p 4 ++ numL S 4 = headS h := by
    rw [hPP]; unfold headS; rw [hS]
  have HSW := Lib.hid hSW
  have hfin : bs (headS h ++ lst (zeros 84) ++ List.replicate (padN (zeros 84).size) 0) = headB h := by
    have e1 : padN (zeros 84).size = 0 := by rw [zeros_size]; rfl
    rw [e1, List.replicate_zero, List.append_nil, bs_append, bs_lst]
    unfold headB pad
    rw [bs_size, headS_len]
  obtain ⟨T, hT⟩ : ∃ T, headB h = T := ⟨_, rfl⟩
  rw [hT] at hfin ⊢
  have hTs : T.size = 128 := by rw [← hT]; unfold headB; exact pad_size (by rw [bs_size, headS_len]; omega)
  have HFIN := Lib.hid hfin
  obtain ⟨q, hq⟩ : ∃ q, W.heap.size = q := ⟨_, rfl⟩
  have hx0 := wr_new ((x.alloc (.cells #[.int .i64 g, .int .i64 e, .int .i64 s, .int .i64 a, .int .i64 z, .int .i64 n, .int .i64 p] 33)).alloc (.cells Tryz.zeroCells109 109))
  rw [World.size_alloc, World.size_alloc, hq] at hx0
  have hU1 := wU32_ok hx0 (by simp) 1346913329 (by omega)
  have HU1 : Hid (Calls Tryz.prog 71 #[.pointer (some ⟨q + 1 + 1, 0, none⟩), .int .i64 1346913329] _ _) := Lib.hid hU1
  obtain ⟨d0, d1, d2, d3, d4, d5, d6⟩ := hd7 hx0.p2
  have HX0 := Lib.hid hx0
  have HQ := Lib.hid hq
  obtain ⟨C, hC⟩ : ∃ C, (cellsB (lst T)).toArray = C := ⟨_, rfl⟩
  have hCs : C.size = 128 := by rw [← hC, List.size_toArray, cellsB_len, lst_len, hTs]
  have hC1 : C.all (·.oneCell') = true := by rw [← hC]; exact all_oneCell_toArray (fun v hv => by obtain ⟨c, _, rfl⟩ := List.mem_map.1 hv; rfl)
  rw [hC]
  have HC := Lib.hid hC
  have HC1 := Lib.hid hC1
  clear hC hC1
  clear hT hc hn x hPP hS hSW hfin hx0 hU1
  go_enter Tryz.func57, Tryz.ntmps57
  go_wp2_with (first
    | (go_at_call 71; with_reducible refine HU1.out.mono ?_; rintro e1 w1 ⟨rfl, hx1⟩; rw [magic_bytes, List.nil_append] at hx1; obtain ⟨d0, d1, d2, d3, d4, d5, d6⟩ := hd7 hx1.p2; have HX1 := Lib.hid hx1; clear hx1)
    | (go_at_call 72; with_reducible refine (wU64_ok HX1.out (by simp [numL_len]) g (by have := HN.out.g2; omega)).mono ?_; rintro e2 w2 ⟨rfl, hx2⟩; clear d0 d1 d2 d3 d4 d5 d6; obtain ⟨d0, d1, d2, d3, d4, d5, d6⟩ := hd7 hx2.p2; have HX2 := Lib.hid hx2; clear hx2)
    | (go_at_call 71; with_reducible refine (wU32_ok HX2.out (by simp [numL_len]) e (by have := HN.out.e2; omega)).mono ?_; rintro e3 w3 ⟨rfl, hx3⟩; clear d0 d1 d2 d3 d4 d5 d6; obtain ⟨d0, d1, d2, d3, d4, d5, d6⟩ := hd7 hx3.p2; have HX3 := Lib.hid hx3; clear hx3)
    | (go_at_call 71; with_reducible refine (wU32_ok HX3.out (by simp [numL_len]) s (by have := HN.out.s2; omega)).mono ?_; rintro e4 w4 ⟨rfl, hx4⟩; clear d0 d1 d2 d3 d4 d5 d6; obtain ⟨d0, d1, d2, d3, d4, d5, d6⟩ := hd7 hx4.p2; have HX4 := Lib.hid hx4; clear hx4)
    | (go_at_call 71; with_reducible refine (wU32_ok HX4.out (by simp [numL_len]) a (by have := HN.out.a2; omega)).mono ?_; rintro e5 w5 ⟨rfl, hx5⟩; clear d0 d1 d2 d3 d4 d5 d6; obtain ⟨d0, d1, d2, d3, d4, d5, d6⟩ := hd7 hx5.p2; have HX5 := Lib.hid hx5; clear hx5)
    | (go_at_call 71; with_reducible refine (wU32_ok HX5.out (by simp [numL_len]) z (by have := HN.out.z2; omega)).mono ?_; rintro e6 w6 ⟨rfl, hx6⟩; clear d0 d1 d2 d3 d4 d5 d6; obtain ⟨d0, d1, d2, d3, d4, d5, d6⟩ := hd7 hx6.p2; have HX6 := Lib.hid hx6; clear hx6)
    | (go_at_call 72; with_reducible refine (wU64_ok HX6.out (by simp [numL_len]) n (by have := HN.out.n2; omega)).mono ?_; rintro e7 w7 ⟨rfl, hx7⟩; clear d0 d1 d2 d3 d4 d5 d6; obtain ⟨d0, d1, d2, d3, d4, d5, d6⟩ := hd7 hx7.p2; have HX7 := Lib.hid hx7; clear hx7)
    | (go_at_call 71; with_reducible refine (wU32_ok HX7.out (by simp [numL_len]) p (by have := HN.out.p2; omega)).mono ?_; rintro e8 w8 ⟨rfl, hx8⟩; clear d0 d1 d2 d3 d4 d5 d6; obtain ⟨d0, d1, d2, d3, d4, d5, d6⟩ := hd7 hx8.p2; have HX8 := Lib.hid hx8; clear hx8)
    | (go_at_call 74; with_reducible refine (wText_ok HX8.out).mono ?_; rintro e9 w9 ⟨rfl, rfl⟩; rw [HPP.out])
    | (go_at_call 73; refine (sumOf_ok HX8.out (bs (headP h)) (by rw [bs_size, headP_len]; omega)).mono ?_; rintro e10 w10 ⟨rfl, hx10⟩; rw [HSS.out]; have HX10 := Lib.hid hx10; clear hx10)
    | (go_at_call 71; with_reducible refine (wU32_ok HX10.out (by simp [numL_len]) S HSL.out).mono ?_; rintro e11 w11 ⟨rfl, hx11⟩; rw [HSW.out] at hx11; have HX11 := Lib.hid hx11; clear hx11)
    | (go_at_call 76; with_reducible refine (wLen_ok HX11.out).mono ?_; rintro e12 w12 ⟨rfl, rfl⟩; rw [headS_len])
    | (go_at_call 22; refine (repeat_ok 84 (by omega) _).mono ?_; rintro e13 w13 ⟨rfl, hb13⟩; have HX13 := Lib.hid (HX11.out.ofBelow hb13); clear hb13)
    | (go_at_call 75; with_reducible refine (wFixed_ok HX13.out (by rw [headS_len]; omega) (zeros 84) (by rw [zeros_size]; omega)).mono ?_; rintro e14 w14 ⟨rfl, hx14⟩; have HX14 := Lib.hid hx14; clear hx14)
    | (go_at_call 74; with_reducible refine (wText_ok HX14.out).mono ?_; rintro e15 w15 ⟨rfl, rfl⟩; rw [HFIN.out]; obtain ⟨g16, cap16, w16, hcv, hx16⟩ := convBytes HX14.out T; rw [hTs] at hcv; have hav := arrayAt_ok ⟨g16, 0, none⟩ cap16 w16
       have HX16 := Lib.hid hx16; clear hx16)
    | (refine wpList_load_mid rfl 109 _ rfl g16 0 rfl (cellsB (lst T)) _ (bytesAt_range HX16.out) Tryz.underlying109 rfl (by rw [cellsB_len, lst_len, hTs]; exact info136) ?_; rw [HC.out])
    | (refine wpList_store_mid rfl 109 _ _ rfl (q + 1) 0 C rfl rfl (by rw [hCs]; exact pt_there HX16.out.p2 size136) (by rw [hCs]; exact info136) HC1.out ?_))
  have hth := pt_there HX16.out.p2 size136
  have hr17 := World.rangeAt_setCells_same w16 (q + 1) 0 C.toList (by rw [Array.length_toList, hCs]; exact hth)
  have hrl : (loadVar 109 ⟨q + 1, 0, none⟩).run Tryz.prog (w16.setCells (q + 1) 0 C.toList) = .ok (.agg C) (w16.setCells (q + 1) 0 C.toList) := by
    have := run_loadVar_mid (P := Tryz.prog) (w16.setCells (q + 1) 0 C.toList) (q + 1) 0 109 C.toList _ hr17 Tryz.underlying109 rfl (by rw [Array.length_toList, hCs]; exact info136)
    simpa using this
  refine bodyPost_ret (v := .agg C) ?_ rfl ⟨rfl, (Sat.setCells C.toList 0 _ _ HX16.out.p2).tail.tail.tail.tail⟩
  simp only [Act.put, List.setIfInBounds_toArray, List.set_cons_zero, List.set_cons_succ]
  simp [results, Tryz.results57, asAddr, hrl]
end Go.Proofs.YtmkpglabiikdeaaGreat

