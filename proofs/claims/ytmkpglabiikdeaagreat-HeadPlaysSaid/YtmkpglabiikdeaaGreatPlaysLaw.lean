/-
  Layer 13: the law HeadPlays, walked.
-/
import Derived.Test.YtmkpglabiikdeaaGreatRefSave
import Derived.Test.YtmkpglabiikdeaaGreatDiskI
namespace Go.Proofs.YtmkpglabiikdeaaGreat
open Go.RowKit PH

def TrueBelow (w : World) (e : Ending) (w' : World) : Prop := e = .returned (.bool true) ∧ Below w.heap.size w w'
theorem plays_known {W w w' : World} {L : List HP} (x : Sat W w (heapIs W :: L)) (hb : Below w.heap.size w w') : Below W.heap.size W w' := (x.ofBelow hb).below

def Pq.arr (x : Pq) : Array Value := #[.int .i64 x.kind, .int .i64 x.i, .string x.s, .slice x.a x.keep.length x.c, .int .i64 x.h.gen, .int .i64 x.h.epoch, .int .i64 x.h.since, .int .i64 x.h.area, .int .i64 x.h.size, .int .i64 x.h.next, .int .i64 x.h.pos]
def noPq : Pq := ⟨0, 0, ByteArray.empty, [], noHd, none, 0⟩
theorem info35 : (Tryz.prog.info? 35).map (·.size) = some 11 := by kernel_rfl
theorem st_one (x : Pq) : x.arr.all (·.oneCell') = true := all_oneCell_toArray (cs := [.int .i64 x.kind, .int .i64 x.i, .string x.s, .slice x.a x.keep.length x.c, .int .i64 x.h.gen, .int .i64 x.h.epoch, .int .i64 x.h.since, .int .i64 x.h.area, .int .i64 x.h.size, .int .i64 x.h.next, .int .i64 x.h.pos]) (fun v hv => by
  simp at hv
  rcases hv with rfl | rfl | rfl | rfl | rfl | rfl | rfl | rfl | rfl | rfl | rfl <;> rfl)
theorem zy {E w : World} {L : List HP} (x : Sat E w L) : Sat E (w.alloc (.cells #[.int .i64 0, .int .i64 0, .string ByteArray.empty, .slice none 0 0, .int .i64 0, .int .i64 0, .int .i64 0, .int .i64 0, .int .i64 0, .int .i64 0, .int .i64 0] 35)) (pt w.heap.size (.cells noPq.arr 35) :: L) := x.alloc _
theorem wpList_store_st {E w : World} {L : List HP} {ops : Array Oper} {rest : List Oper} {op : Oper} {a : Act} {Q : Exit → Act → World → Prop} {q : Nat} {U : Pq} (S : Sat E w (pt q (.cells U.arr 35) :: L)) (V : Pq)
    (hop : op.guard = none ∧ ∃ x y : Operand, op.op = .store 35 x y ∧ a.eval x = .pointer (some ⟨q, 0, none⟩) ∧ a.eval y = .agg #[.int .i64 V.kind, .int .i64 V.i, .string V.s, .slice V.a V.keep.length V.c, .int .i64 V.h.gen, .int .i64 V.h.epoch, .int .i64 V.h.since, .int .i64 V.h.area, .int .i64 V.h.size, .int .i64 V.h.next, .int .i64 V.h.pos])
    (h : ∀ w', Sat E w' (pt q (.cells V.arr 35) :: L) → wpList Tryz.prog ops Q rest (a.put op.dst undef) w') : wpList Tryz.prog ops Q (op :: rest) a w :=
  by
  obtain ⟨hgd, x, y, ho, hx, hy⟩ := hop
  exact wpList_store_mid hgd 35 x y ho q 0 V.arr hx hy (pt_there S rfl) info35 (st_one V) (h _ (setCells_all (C := V.arr) S rfl))
theorem st11 {E w : World} {L : List HP} {q : Nat} {p : Pq} {ty : TypeId} (x : Sat E w (pt q (.cells p.arr ty) :: L)) : w.cell? ⟨q, 0, none⟩ = some (.int .i64 p.kind) ∧ w.cell? ⟨q, 1, none⟩ = some (.int .i64 p.i) ∧ w.cell? ⟨q, 2, none⟩ = some (.string p.s) ∧ w.cell? ⟨q, 3, none⟩ = some (.slice p.a p.keep.length p.c) ∧ w.cell? ⟨q, 4, none⟩ = some (.int .i64 p.h.gen) ∧ w.cell? ⟨q, 5, none⟩ = some (.int .i64 p.h.epoch) ∧ w.cell? ⟨q, 6, none⟩ = some (.int .i64 p.h.since) ∧ w.cell? ⟨q, 7, none⟩ = some (.int .i64 p.h.area) ∧ w.cell? ⟨q, 8, none⟩ = some (.int .i64 p.h.size) ∧ w.cell? ⟨q, 9, none⟩ = some (.int .i64 p.h.next) ∧ w.cell? ⟨q, 10, none⟩ = some (.int .i64 p.h.pos) :=
  ⟨cell_blk x.at 0, cell_blk x.at 1, cell_blk x.at 2, cell_blk x.at 3, cell_blk x.at 4, cell_blk x.at 5, cell_blk x.at 6, cell_blk x.at 7, cell_blk x.at 8, cell_blk x.at 9, cell_blk x.at 10⟩

set_option maxRecDepth 100000 in
set_option maxHeartbeats 400000 in
theorem large13_ok {w : World} {a : Option Addr} {c : Nat} {l : List Pq} (h : Sees w a (pqs l)) (hl : l.length ≤ 9223372036854775807) (hsz : ∀ x ∈ l, x.s.size ≤ 9223372036854775807 ∧ x.keep.length ≤ 9223372036854775807) :
    Calls Tryz.prog 4 #[.slice a l.length c] w fun e w' => e = .returned (.bool (bigP l)) ∧ w' = w := by
  obtain ⟨n, hn⟩ : ∃ n, l.length = n := ⟨_, rfl⟩
  have HN := Lib.hid hn
  have HS := Lib.hid h
  have HSZ := Lib.hid hsz
  rw [hn] at hl ⊢
  clear hn h hsz
  obtain ⟨r, hr⟩ : ∃ r, bigP l = r := ⟨_, rfl⟩
  rw [hr]
  have HR := Lib.hid hr
  clear hr
  go_enter Tryz.func4, Tryz.ntmps4
  go_wp2
  go_loop [3] (fun i => ∃ k : Nat, k ≤ n ∧ k ≤ 40 ∧ i = .int .i64 k ∧ Hid (∀ j, j < k → ∀ p, l[j]? = some p → smallP p = true)) (fun i => 40 - (intOf i).toNat)
  case atStart => exact ⟨0, by omega, by omega, rfl, Lib.hid fun j hj => by omega⟩
  case round =>
    obtain ⟨k, hk, hk7, rfl, HNO⟩ := hrel
    by_cases h1 : k < n
    · by_cases h2 : k < 40
      · obtain ⟨x, hx⟩ : ∃ x, l[k]? = some x := ⟨_, List.getElem?_eq_getElem (by rw [HN.out]; exact h1)⟩
        obtain ⟨b, off, rfl, hc⟩ := HS.out.play hx
        obtain ⟨z1, z2⟩ := HSZ.out x (List.mem_of_getElem? hx)
        obtain ⟨kd, i0, s, zs, hh, ax, cx⟩ := x
        have c2 := hc 2 (.string s) rfl
        have c3 := hc 3 (.slice ax zs.length cx) rfl
        dsimp only at z1 z2
        have HXX := Lib.hid hx
        clear hx hc
        by_cases h3 : 200 < s.size
        · go_wp2
          go_ret
          exact ⟨retB ((bigP_yes (List.mem_of_getElem? HXX.out) (by simp [smallP]; omega)).symm.trans HR.out), rfl⟩
        · by_cases h4 : 60 < zs.length
          · go_wp2
            go_ret
            exact ⟨retB ((bigP_yes (List.mem_of_getElem? HXX.out) (by simp [smallP]; omega)).symm.trans HR.out), rfl⟩
          · go_wp2
            go_round
            case rel => exact ⟨k + 1, by omega, by omega, by go_num, Lib.hid fun j hj p hp => by
              rcases Nat.lt_or_ge j k with h' | h'
              · exact HNO.out j h' p hp
              · obtain rfl : j = k := by omega
                rw [HXX.out] at hp; cases hp; simp [smallP]; omega⟩
            case measure => simp [intOf]; omega
      · go_wp2
        go_ret
        refine ⟨retB ?_, rfl⟩
        rw [← HR.out, bigP_all HNO.out (.inr (by omega)), HN.out]
        simp; omega
    · go_wp2
      go_ret
      refine ⟨retB ?_, rfl⟩
      rw [← HR.out, bigP_all HNO.out (.inl (by rw [HN.out]; omega)), HN.out]
      simp; omega

set_option maxRecDepth 100000 in
set_option maxHeartbeats 400000 in
theorem sameS_ok {E W : World} {L : List HP} {l : List ByteArray} {a b : Option Addr} {ca cb n : Nat} (x : Sat E W (row 9 1 (.slice a n ca) n (sects l) :: row 9 1 (.slice b n cb) n (sects l) :: L)) (hn : l.length = n) (hl : n ≤ 1000000) :
    Calls Tryz.prog 20 #[.slice a n ca, .slice b n cb] W fun e w' => e = .returned (.bool true) ∧ Sat E w' (row 9 1 (.slice a n ca) n (sects l) :: row 9 1 (.slice b n cb) n (sects l) :: L) := by
  have HX := Lib.hid x
  have HN := Lib.hid hn
  clear x hn
  go_enter Tryz.func20, Tryz.ntmps20
  go_wp2
  go_loopw [5] (fun i wr => ∃ k : Nat, k ≤ n ∧ i = .int .i64 k ∧ Sat E wr (row 9 1 (.slice a n ca) n (sects l) :: row 9 1 (.slice b n cb) n (sects l) :: L)) (fun i _ => n - (intOf i).toNat)
  case atStart => exact ⟨0, by omega, rfl, HX.out⟩
  case round =>
    obtain ⟨k, hk, rfl, hx⟩ := hrel
    by_cases hlt : k < n
    · obtain ⟨s, hs⟩ : ∃ s, l[k]? = some s := ⟨_, List.getElem?_eq_getElem (by rw [HN.out]; exact hlt)⟩
      obtain ⟨ga, xa, e, -, -, -, hsa⟩ := hx.rowSees (by omega)
      cases e
      obtain ⟨gb, xb, e, -, -, -, hsb⟩ := hx.p1.rowSees (by omega)
      cases e
      have d0 : wr.drew.cell? ⟨ga, k, none⟩ = some (.string s) := by
        have := hsa k (.string s) (by simp [sects, hs])
        rwa [Nat.zero_add] at this
      have d1 : wr.drew.cell? ⟨gb, k, none⟩ = some (.string s) := by
        have := hsb k (.string s) (by simp [sects, hs])
        rwa [Nat.zero_add] at this
      have HXR := Lib.hid hx
      clear hx hsa hsb hs
      go_wp2
      refine wp_region_planL [(0, true), (1, true), (2, true), (3, true), (4, true), (5, true), (6, true), (7, true), (8, true)]
        [(9, fun w1 => w1.cell? ⟨ga, k, none⟩ = some (.string s) ∧ w1.cell? ⟨gb, k, none⟩ = some (.string s))] (by kernel_rfl) (by kernel_rfl) (by intro c a d v w h; cases d <;> exact h) ?_ ?_
      · exact ⟨⟨d0, d1⟩, trivial⟩
      simp only [planOps, List.getElem?_cons_zero, List.getElem?_cons_succ]
      iterate 9 (first | ((apply plan_pure rfl; (intro w1; go_simp; try go_bits); with_reducible rfl); try simp only [Act.put, List.setIfInBounds_toArray, List.set_cons_zero, List.set_cons_succ]) | ((refine' plan_load 0 rfl (by kernel_rfl) rfl ?_ ?_; rotate_left; (intro w1 hw1; go_simp; with_reducible rfl)); try simp only [Act.put, List.setIfInBounds_toArray, List.set_cons_zero, List.set_cons_succ]))
      refine plan_nil ?_
      go_wp2
      refine ⟨⟨k + 1, by omega, by go_num, HXR.out.drew⟩, by simp [intOf]; omega⟩
    · obtain rfl : k = n := by omega
      have HXR := Lib.hid hx
      clear hx
      go_wp2
      go_ret
      exact ⟨rfl, HXR.out⟩



set_option maxRecDepth 100000 in
set_option maxHeartbeats 6400000 in
theorem headPlays_ok {W : World} {at_ : Int} {l : List Pq} {a : Option Addr} {c : Nat} (hsee : Sees W a (pqs l)) (hall : ∀ x ∈ l, x.ok W) (hl : l.length ≤ 9223372036854775807) :
    Calls Tryz.prog 3 #[.int .i64 at_, .slice a l.length c] W (TrueBelow W) := by
  have hlr := large13_ok (c := c) hsee hl (fun x hx => by obtain ⟨-, k2, k3, -⟩ := hall x hx; unfold maxLen at k2 k3; exact ⟨by omega, by omega⟩)
  obtain ⟨r, hr⟩ : ∃ r, bigP l = r := ⟨_, rfl⟩
  obtain ⟨len, hlen⟩ : ∃ n, l.length = n := ⟨_, rfl⟩
  rw [hr, hlen] at hlr
  rw [hlen] at hl ⊢
  have HL := Lib.hid hlr
  have HR := Lib.hid hr
  have HLEN := Lib.hid hlen
  have HSEE := Lib.hid hsee
  have HALL := Lib.hid hall
  clear hlr hr hlen hsee hall
  by_cases ha0 : at_ < -2
  · go_enter Tryz.func3, Tryz.ntmps3
    go_wp2_with (first | (go_at_call 4; refine HL.out.mono ?_; rintro e w2 ⟨rfl, rfl⟩) | (go_at_call 5; refine (headKnown_ok _).mono ?_; rintro e w2 ⟨rfl, hb⟩))
    go_ret
    exact ⟨rfl, hb⟩
  by_cases ha1 : 6 < at_
  · go_enter Tryz.func3, Tryz.ntmps3
    go_wp2_with (first | (go_at_call 4; refine HL.out.mono ?_; rintro e w2 ⟨rfl, rfl⟩) | (go_at_call 5; refine (headKnown_ok _).mono ?_; rintro e w2 ⟨rfl, hb⟩))
    go_ret
    exact ⟨rfl, hb⟩
  cases r
  · have hl40 : len ≤ 40 := by rw [← HLEN.out]; exact (bigP_no HR.out).1
    go_enter Tryz.func3, Tryz.ntmps3
    go_wp2_with (first
      | (go_at_call 4; refine HL.out.mono ?_; rintro e w2 ⟨rfl, hw⟩; subst w2)
      | (go_at_call 6; refine (new_ok (n := 5) (Sat.start _) (by omega) (by omega)).mono ?_; rintro e w2 ⟨b, rfl, hx2⟩; have HX2 := Lib.hid hx2; clear hx2)
      | (go_at_call 7; refine (refnew_ok (n := 5) HX2.out (by omega)).mono ?_; rintro e w4 ⟨x, rfl, hx4⟩; have HX4 := Lib.hid hx4; clear hx4))
    go_loopw [8] (fun i wr => ∃ k : Nat, k ≤ len ∧ i = .int .i64 k ∧ Sat W wr (isRef x (runP at_ (newD 5) l k) :: isDisk b (runP at_ (newD 5) l k) :: [heapIs W])) (fun i _ => len - (intOf i).toNat)
    case atStart => exact ⟨0, by omega, rfl, HX4.out⟩
    case round =>
      clear HX4 HX2
      obtain ⟨k, hk, rfl, hx⟩ := hrel
      have hrun := runP_all (n := 5) (by omega) at_ (fun x hx => (HALL.out x hx).2.2.2.1) k (by rw [HLEN.out]; exact hk) (by omega)
      obtain ⟨D, hD⟩ : ∃ D, runP at_ (newD 5) l k = D := ⟨_, rfl⟩
      rw [hD] at hrun hx
      have HD := Lib.hid hD
      have HRUN := Lib.hid hrun
      have HX := Lib.hid hx
      have HM := Lib.hid (hrun.made (by omega))
      clear hD hrun hx
      by_cases hlt : k < len
      · obtain ⟨sq, hsq⟩ : ∃ x, l[k]? = some x := ⟨_, List.getElem?_eq_getElem (by rw [HLEN.out]; exact hlt)⟩
        have hsm := (bigP_no HR.out).2 sq (List.mem_of_getElem? hsq)
        have hsa := HALL.out sq (List.mem_of_getElem? hsq)
        obtain ⟨kd, i0, s, zs, ⟨h0, h1, h2, h3, h4, h5, h6⟩, ax, cx⟩ := sq
        obtain ⟨g, off, rfl, hc⟩ := (HSEE.out.kept HX.out.p2.below).play hsq
        have c0 := hc 0 (.int .i64 kd) rfl
        have c1 := hc 1 (.int .i64 i0) rfl
        have c2 := hc 2 (.string s) rfl
        have c3 := hc 3 (.slice ax zs.length cx) rfl
        have c4 := hc 4 (.int .i64 h0) rfl
        have c5 := hc 5 (.int .i64 h1) rfl
        have c6 := hc 6 (.int .i64 h2) rfl
        have c7 := hc 7 (.int .i64 h3) rfl
        have c8 := hc 8 (.int .i64 h4) rfl
        have c9 := hc 9 (.int .i64 h5) rfl
        have c10 := hc 10 (.int .i64 h6) rfl
        unfold Pq.ok at hsa
        dsimp only at hsm hsa
        rw [Nat.add_zero] at c0
        have HSQ := Lib.hid hsq
        have HSA := Lib.hid hsa
        have HSM := Lib.hid hsm
        clear hsq hsa hsm hc
        have hxa := zy HX.out
        obtain ⟨p, hp⟩ : ∃ p, wr.heap.size = p := ⟨_, rfl⟩
        rw [hp] at hxa
        have HXA := Lib.hid hxa
        clear hxa
        by_cases k1 : kd = 1
        · subst kd
          obtain ⟨D2, hD2⟩ : ∃ D2, writeD D i0 s = D2 := ⟨_, rfl⟩
          obtain ⟨we, hwe⟩ : ∃ e, writeE D i0 s = e := ⟨_, rfl⟩
          have hpl : plD at_ D (⟨1, i0, s, zs, ⟨h0, h1, h2, h3, h4, h5, h6⟩, ax, cx⟩ : Pq) = D2 := by unfold plD; simpa using hD2
          have hrun2 := HRUN.out.step (by omega) at_ (⟨1, i0, s, zs, ⟨h0, h1, h2, h3, h4, h5, h6⟩, ax, cx⟩ : Pq) HSA.out.2.2.2.1
          rw [hpl] at hrun2
          have HRUN2 := Lib.hid hrun2
          have HPL := Lib.hid hpl
          clear hrun2 hpl
          have HD2 := Lib.hid hD2
          clear hD2
          have HWE := Lib.hid hwe
          clear hwe
          go_wp2_with (first
            | (with_reducible refine wpList_store_st HXA.out (⟨1, i0, s, zs, ⟨h0, h1, h2, h3, h4, h5, h6⟩, ax, cx⟩ : Pq) ?_ ?_
               exact ⟨rfl, _, _, rfl, rfl, rfl⟩
               intro w2 hx2
               clear c0 c1 c2 c3 c4 c5 c6 c7 c8 c9 c10
               obtain ⟨t0, t1, t2, t3, t4, t5, t6, t7, t8, t9, t10⟩ := st11 hx2
               have HX2 := Lib.hid hx2
               clear hx2 HXA))
          have HX3 := Lib.hid HX2.out.drew
          clear t0 t1 t2 t3 t4 t5 t6 t7 t8 t9 t10 HX2
          obtain ⟨-, t1, t2, -⟩ := st11 HX3.out
          refine wp_region_planL [(0, true), (1, true), (2, true), (3, true), (4, true), (6, true), (7, true), (8, true), (9, true), (10, true), (5, false), (11, false), (12, true)]
            [(13, fun w1 => w1.cell? ⟨p, 1, none⟩ = some (.int .i64 i0) ∧ w1.cell? ⟨p, 2, none⟩ = some (.string s))] (by kernel_rfl) (by kernel_rfl) (by intro c a d v w h; cases d <;> exact h) ?_ ?_
          · exact ⟨⟨t1, t2⟩, trivial⟩
          simp only [planOps, List.getElem?_cons_zero, List.getElem?_cons_succ]
          iterate 10 (first | ((apply plan_pure rfl; (intro w1; go_simp; try go_bits); with_reducible rfl); try simp only [Act.put, List.setIfInBounds_toArray, List.set_cons_zero, List.set_cons_succ]) | ((refine' plan_load 0 rfl (by kernel_rfl) rfl ?_ ?_; rotate_left; (intro w1 hw1; go_simp; with_reducible rfl)); try simp only [Act.put, List.setIfInBounds_toArray, List.set_cons_zero, List.set_cons_succ]))
          refine plan_loud rfl (fun K hK => ?_); go_simp
          refine (write_ok HX3.out.p2 HRUN.out.ok i0 s (by have := HSM.out.1; omega)).mono ?_
          rintro e w4 ⟨rfl, hx4⟩
          rw [HWE.out]
          rw [HD2.out] at hx4
          dsimp only
          clear t1 t2
          obtain ⟨-, t1, t2, -⟩ := st11 hx4.p1
          refine hK _ _ ⟨⟨t1, t2⟩, trivial⟩ ?_
          clear hK K
          have HX4 := Lib.hid hx4
          clear hx4 HX3
          try simp only [Act.put, List.setIfInBounds_toArray, List.set_cons_zero, List.set_cons_succ]
          refine plan_loud rfl (fun K hK => ?_); go_simp
          refine (refwrite_ok HX4.out.p2 HM.out HRUN.out.ok (by have := HRUN.out.w; omega) i0 s (by have := HSM.out.1; omega)).mono ?_
          rintro e w4 ⟨rfl, hx5⟩
          rw [HWE.out]
          rw [HD2.out] at hx5
          dsimp only
          clear t1 t2
          obtain ⟨-, t1, t2, -⟩ := st11 hx5.p2
          refine hK _ _ ⟨⟨t1, t2⟩, trivial⟩ ?_
          clear hK K
          have hxe := hx5
          clear hx5 HX4
          try simp only [Act.put, List.setIfInBounds_toArray, List.set_cons_zero, List.set_cons_succ]
          iterate 1 (first | ((apply plan_pure rfl; (intro w1; go_simp; try go_bits); with_reducible rfl); try simp only [Act.put, List.setIfInBounds_toArray, List.set_cons_zero, List.set_cons_succ]) | ((refine' plan_load 0 rfl (by kernel_rfl) rfl ?_ ?_; rotate_left; (intro w1 hw1; go_simp; with_reducible rfl)); try simp only [Act.put, List.setIfInBounds_toArray, List.set_cons_zero, List.set_cons_succ]))
          refine plan_nil ?_
          go_wp2
          have hmd : (madeB D2 && D2.dead) = D2.dead := by rw [HRUN2.out.made (by omega)]; rfl
          have hmw : (if madeB D2 = true then (D2.wait.length : Int) else 0) = D2.wait.length := by rw [HRUN2.out.made (by omega)]; rfl
          have HX7 := Lib.hid hxe.drew
          obtain ⟨ak5, ck5, aw5, cw5, hx5, -, -⟩ := ref_open HX7.out
          obtain ⟨-, e1, -, e3, -, -, -⟩ := ref_cells hx5
          obtain ⟨dd, hdd⟩ : ∃ d, D2.dead = d := ⟨_, rfl⟩
          obtain ⟨wl, hwl⟩ : ∃ d, D2.wait.length = d := ⟨_, rfl⟩
          rw [hdd] at e3
          rw [hwl] at e1
          have HMD := Lib.hid hmd
          have HMW := Lib.hid hmw
          have HDD := Lib.hid hdd
          have HWL := Lib.hid hwl
          clear hmd hmw hdd hwl hx5 hxe
          refine wp_region_planL [(0, true), (2, true), (3, true), (4, true), (5, true), (6, true), (1, false), (7, true), (8, true), (9, true), (11, true), (12, true), (13, true), (14, true), (10, false), (15, true), (16, true)]
            [(17, fun w1 => w1.cell? ⟨x, 1, none⟩ = some (.slice aw5 wl cw5) ∧ w1.cell? ⟨x, 3, none⟩ = some (.bool dd))] (by kernel_rfl) (by kernel_rfl) (by intro c a d v w h; cases d <;> exact h) ?_ ?_
          · exact ⟨⟨e1, e3⟩, trivial⟩
          simp only [planOps, List.getElem?_cons_zero, List.getElem?_cons_succ]
          iterate 6 (first | ((apply plan_pure rfl; (intro w1; go_simp; try go_bits); with_reducible rfl); try simp only [Act.put, List.setIfInBounds_toArray, List.set_cons_zero, List.set_cons_succ]) | ((refine' plan_load 0 rfl (by kernel_rfl) rfl ?_ ?_; rotate_left; (intro w1 hw1; go_simp; with_reducible rfl)); try simp only [Act.put, List.setIfInBounds_toArray, List.set_cons_zero, List.set_cons_succ]))
          refine plan_loud rfl (fun K hK => ?_); go_simp
          refine (waiting_ok HX7.out.p1).mono ?_
          rintro e w5 ⟨rfl, rfl⟩
          rw [HMW.out, HWL.out]
          dsimp only
          refine hK _ _ ⟨⟨e1, e3⟩, trivial⟩ ?_
          clear hK K
          try simp only [Act.put, List.setIfInBounds_toArray, List.set_cons_zero, List.set_cons_succ]
          iterate 7 (first | ((apply plan_pure rfl; (intro w1; go_simp; try go_bits); with_reducible rfl); try simp only [Act.put, List.setIfInBounds_toArray, List.set_cons_zero, List.set_cons_succ]) | ((refine' plan_load 0 rfl (by kernel_rfl) rfl ?_ ?_; rotate_left; (intro w1 hw1; go_simp; with_reducible rfl)); try simp only [Act.put, List.setIfInBounds_toArray, List.set_cons_zero, List.set_cons_succ]))
          refine plan_loud rfl (fun K hK => ?_); go_simp
          refine (dead_ok HX7.out.p1).mono ?_
          rintro e w5 ⟨rfl, rfl⟩
          rw [HMD.out, HDD.out]
          dsimp only
          refine hK _ _ ⟨⟨e1, e3⟩, trivial⟩ ?_
          clear hK K
          try simp only [Act.put, List.setIfInBounds_toArray, List.set_cons_zero, List.set_cons_succ]
          iterate 2 (first | ((apply plan_pure rfl; (intro w1; go_simp; try go_bits); with_reducible rfl); try simp only [Act.put, List.setIfInBounds_toArray, List.set_cons_zero, List.set_cons_succ]) | ((refine' plan_load 0 rfl (by kernel_rfl) rfl ?_ ?_; rotate_left; (intro w1 hw1; go_simp; with_reducible rfl)); try simp only [Act.put, List.setIfInBounds_toArray, List.set_cons_zero, List.set_cons_succ]))
          refine plan_nil ?_
          go_wp2
          refine ⟨⟨k + 1, by omega, by go_num, ?_⟩, by simp [intOf]; omega⟩
          rw [runP_succ HSQ.out, HD.out, HPL.out]
          exact HX7.out.p2.tail
        by_cases k2 : kd = 2
        · subst kd
          obtain ⟨D2, hD2⟩ : ∃ D2, crashD D zs = D2 := ⟨_, rfl⟩
          have hpl : plD at_ D (⟨2, i0, s, zs, ⟨h0, h1, h2, h3, h4, h5, h6⟩, ax, cx⟩ : Pq) = D2 := by unfold plD; simpa using hD2
          have hrun2 := HRUN.out.step (by omega) at_ (⟨2, i0, s, zs, ⟨h0, h1, h2, h3, h4, h5, h6⟩, ax, cx⟩ : Pq) HSA.out.2.2.2.1
          rw [hpl] at hrun2
          have HRUN2 := Lib.hid hrun2
          have HPL := Lib.hid hpl
          clear hrun2 hpl
          have HD2 := Lib.hid hD2
          clear hD2
          go_wp2_with (first
            | (with_reducible refine wpList_store_st HXA.out (⟨2, i0, s, zs, ⟨h0, h1, h2, h3, h4, h5, h6⟩, ax, cx⟩ : Pq) ?_ ?_
               exact ⟨rfl, _, _, rfl, rfl, rfl⟩
               intro w2 hx2
               clear c0 c1 c2 c3 c4 c5 c6 c7 c8 c9 c10
               obtain ⟨t0, t1, t2, t3, t4, t5, t6, t7, t8, t9, t10⟩ := st11 hx2
               have t3a := (st11 (hx2.alloc (.cells #[] 3)).p1).2.2.2.1
               have HX2 := Lib.hid hx2
               clear hx2 HXA)
            | (at_builtin; go_loud (refine wpList_appI rfl _ _ rfl (HX2.out.p2.rowEmpty 3 1 rfl) (HSA.out.1.kept (HX2.out.p2.rowEmpty 3 1 rfl).p4.below) (by have := HSM.out.2; omega) rfl rfl ?_; intro v' w3 hx3; obtain ⟨a', c', rfl, -⟩ := rowSlice hx3; have HX3 := Lib.hid hx3.p1; clear hx3))
            | (go_at_call 10; refine (crash_ok HX3.out HRUN.out.ok (fun W' hW => seesI_own hW) (by have := HSM.out.2; omega)).mono ?_; rintro e w4 ⟨rfl, hx4⟩; rw [HD2.out] at hx4; clear t0 t1 t2 t3 t4 t5 t6 t7 t8 t9 t10; obtain ⟨t0, t1, t2, t3, t4, t5, t6, t7, t8, t9, t10⟩ := st11 hx4.p2; have HX4 := Lib.hid hx4; clear hx4)
            | (go_at_call 11; refine (refcrash_ok HX4.out.p3 HM.out HRUN.out.ok (fun W' hW => HSA.out.1.kept hW.p3.below) (by have := HSM.out.2; omega)).mono ?_; rintro e w5 ⟨rfl, hx5⟩; rw [HD2.out] at hx5; clear t0 t1 t2 t3 t4 t5 t6 t7 t8 t9 t10; have hxe := hx5.p2.tail; clear hx5))
          have hmd : (madeB D2 && D2.dead) = D2.dead := by rw [HRUN2.out.made (by omega)]; rfl
          have hmw : (if madeB D2 = true then (D2.wait.length : Int) else 0) = D2.wait.length := by rw [HRUN2.out.made (by omega)]; rfl
          have HX7 := Lib.hid hxe.drew
          obtain ⟨ak5, ck5, aw5, cw5, hx5, -, -⟩ := ref_open HX7.out
          obtain ⟨-, e1, -, e3, -, -, -⟩ := ref_cells hx5
          obtain ⟨dd, hdd⟩ : ∃ d, D2.dead = d := ⟨_, rfl⟩
          obtain ⟨wl, hwl⟩ : ∃ d, D2.wait.length = d := ⟨_, rfl⟩
          rw [hdd] at e3
          rw [hwl] at e1
          have HMD := Lib.hid hmd
          have HMW := Lib.hid hmw
          have HDD := Lib.hid hdd
          have HWL := Lib.hid hwl
          clear hmd hmw hdd hwl hx5 hxe
          refine wp_region_planL [(0, true), (2, true), (3, true), (4, true), (5, true), (6, true), (1, false), (7, true), (8, true), (9, true), (11, true), (12, true), (13, true), (14, true), (10, false), (15, true), (16, true)]
            [(17, fun w1 => w1.cell? ⟨x, 1, none⟩ = some (.slice aw5 wl cw5) ∧ w1.cell? ⟨x, 3, none⟩ = some (.bool dd))] (by kernel_rfl) (by kernel_rfl) (by intro c a d v w h; cases d <;> exact h) ?_ ?_
          · exact ⟨⟨e1, e3⟩, trivial⟩
          simp only [planOps, List.getElem?_cons_zero, List.getElem?_cons_succ]
          iterate 6 (first | ((apply plan_pure rfl; (intro w1; go_simp; try go_bits); with_reducible rfl); try simp only [Act.put, List.setIfInBounds_toArray, List.set_cons_zero, List.set_cons_succ]) | ((refine' plan_load 0 rfl (by kernel_rfl) rfl ?_ ?_; rotate_left; (intro w1 hw1; go_simp; with_reducible rfl)); try simp only [Act.put, List.setIfInBounds_toArray, List.set_cons_zero, List.set_cons_succ]))
          refine plan_loud rfl (fun K hK => ?_); go_simp
          refine (waiting_ok HX7.out.p1).mono ?_
          rintro e w5 ⟨rfl, rfl⟩
          rw [HMW.out, HWL.out]
          dsimp only
          refine hK _ _ ⟨⟨e1, e3⟩, trivial⟩ ?_
          clear hK K
          try simp only [Act.put, List.setIfInBounds_toArray, List.set_cons_zero, List.set_cons_succ]
          iterate 7 (first | ((apply plan_pure rfl; (intro w1; go_simp; try go_bits); with_reducible rfl); try simp only [Act.put, List.setIfInBounds_toArray, List.set_cons_zero, List.set_cons_succ]) | ((refine' plan_load 0 rfl (by kernel_rfl) rfl ?_ ?_; rotate_left; (intro w1 hw1; go_simp; with_reducible rfl)); try simp only [Act.put, List.setIfInBounds_toArray, List.set_cons_zero, List.set_cons_succ]))
          refine plan_loud rfl (fun K hK => ?_); go_simp
          refine (dead_ok HX7.out.p1).mono ?_
          rintro e w5 ⟨rfl, rfl⟩
          rw [HMD.out, HDD.out]
          dsimp only
          refine hK _ _ ⟨⟨e1, e3⟩, trivial⟩ ?_
          clear hK K
          try simp only [Act.put, List.setIfInBounds_toArray, List.set_cons_zero, List.set_cons_succ]
          iterate 2 (first | ((apply plan_pure rfl; (intro w1; go_simp; try go_bits); with_reducible rfl); try simp only [Act.put, List.setIfInBounds_toArray, List.set_cons_zero, List.set_cons_succ]) | ((refine' plan_load 0 rfl (by kernel_rfl) rfl ?_ ?_; rotate_left; (intro w1 hw1; go_simp; with_reducible rfl)); try simp only [Act.put, List.setIfInBounds_toArray, List.set_cons_zero, List.set_cons_succ]))
          refine plan_nil ?_
          go_wp2
          refine ⟨⟨k + 1, by omega, by go_num, ?_⟩, by simp [intOf]; omega⟩
          rw [runP_succ HSQ.out, HD.out, HPL.out]
          exact HX7.out.p2.tail
        by_cases k3 : kd = 3
        · subst kd
          obtain ⟨D2, hD2⟩ : ∃ D2, armD D i0 = D2 := ⟨_, rfl⟩
          have hpl : plD at_ D (⟨3, i0, s, zs, ⟨h0, h1, h2, h3, h4, h5, h6⟩, ax, cx⟩ : Pq) = D2 := by unfold plD; simpa using hD2
          have hrun2 := HRUN.out.step (by omega) at_ (⟨3, i0, s, zs, ⟨h0, h1, h2, h3, h4, h5, h6⟩, ax, cx⟩ : Pq) HSA.out.2.2.2.1
          rw [hpl] at hrun2
          have HRUN2 := Lib.hid hrun2
          have HPL := Lib.hid hpl
          clear hrun2 hpl
          have HD2 := Lib.hid hD2
          clear hD2
          go_wp2_with (first
            | (with_reducible refine wpList_store_st HXA.out (⟨3, i0, s, zs, ⟨h0, h1, h2, h3, h4, h5, h6⟩, ax, cx⟩ : Pq) ?_ ?_
               exact ⟨rfl, _, _, rfl, rfl, rfl⟩
               intro w2 hx2
               clear c0 c1 c2 c3 c4 c5 c6 c7 c8 c9 c10
               obtain ⟨t0, t1, t2, t3, t4, t5, t6, t7, t8, t9, t10⟩ := st11 hx2
               have HX2 := Lib.hid hx2
               clear hx2 HXA)
            | (go_at_call 12; refine (arm_ok HX2.out.p2 i0).mono ?_; rintro e w4 ⟨rfl, hx4⟩; rw [HD2.out] at hx4; clear t0 t1 t2 t3 t4 t5 t6 t7 t8 t9 t10; obtain ⟨t0, t1, t2, t3, t4, t5, t6, t7, t8, t9, t10⟩ := st11 hx4.p1; have HX4 := Lib.hid hx4; clear hx4)
            | (go_at_call 13; refine (refarm_ok HX4.out.p2 HM.out i0).mono ?_; rintro e w5 ⟨rfl, hx5⟩; rw [HD2.out] at hx5; clear t0 t1 t2 t3 t4 t5 t6 t7 t8 t9 t10; have hxe := hx5; clear hx5))
          have hmd : (madeB D2 && D2.dead) = D2.dead := by rw [HRUN2.out.made (by omega)]; rfl
          have hmw : (if madeB D2 = true then (D2.wait.length : Int) else 0) = D2.wait.length := by rw [HRUN2.out.made (by omega)]; rfl
          have HX7 := Lib.hid hxe.drew
          obtain ⟨ak5, ck5, aw5, cw5, hx5, -, -⟩ := ref_open HX7.out
          obtain ⟨-, e1, -, e3, -, -, -⟩ := ref_cells hx5
          obtain ⟨dd, hdd⟩ : ∃ d, D2.dead = d := ⟨_, rfl⟩
          obtain ⟨wl, hwl⟩ : ∃ d, D2.wait.length = d := ⟨_, rfl⟩
          rw [hdd] at e3
          rw [hwl] at e1
          have HMD := Lib.hid hmd
          have HMW := Lib.hid hmw
          have HDD := Lib.hid hdd
          have HWL := Lib.hid hwl
          clear hmd hmw hdd hwl hx5 hxe
          refine wp_region_planL [(0, true), (2, true), (3, true), (4, true), (5, true), (6, true), (1, false), (7, true), (8, true), (9, true), (11, true), (12, true), (13, true), (14, true), (10, false), (15, true), (16, true)]
            [(17, fun w1 => w1.cell? ⟨x, 1, none⟩ = some (.slice aw5 wl cw5) ∧ w1.cell? ⟨x, 3, none⟩ = some (.bool dd))] (by kernel_rfl) (by kernel_rfl) (by intro c a d v w h; cases d <;> exact h) ?_ ?_
          · exact ⟨⟨e1, e3⟩, trivial⟩
          simp only [planOps, List.getElem?_cons_zero, List.getElem?_cons_succ]
          iterate 6 (first | ((apply plan_pure rfl; (intro w1; go_simp; try go_bits); with_reducible rfl); try simp only [Act.put, List.setIfInBounds_toArray, List.set_cons_zero, List.set_cons_succ]) | ((refine' plan_load 0 rfl (by kernel_rfl) rfl ?_ ?_; rotate_left; (intro w1 hw1; go_simp; with_reducible rfl)); try simp only [Act.put, List.setIfInBounds_toArray, List.set_cons_zero, List.set_cons_succ]))
          refine plan_loud rfl (fun K hK => ?_); go_simp
          refine (waiting_ok HX7.out.p1).mono ?_
          rintro e w5 ⟨rfl, rfl⟩
          rw [HMW.out, HWL.out]
          dsimp only
          refine hK _ _ ⟨⟨e1, e3⟩, trivial⟩ ?_
          clear hK K
          try simp only [Act.put, List.setIfInBounds_toArray, List.set_cons_zero, List.set_cons_succ]
          iterate 7 (first | ((apply plan_pure rfl; (intro w1; go_simp; try go_bits); with_reducible rfl); try simp only [Act.put, List.setIfInBounds_toArray, List.set_cons_zero, List.set_cons_succ]) | ((refine' plan_load 0 rfl (by kernel_rfl) rfl ?_ ?_; rotate_left; (intro w1 hw1; go_simp; with_reducible rfl)); try simp only [Act.put, List.setIfInBounds_toArray, List.set_cons_zero, List.set_cons_succ]))
          refine plan_loud rfl (fun K hK => ?_); go_simp
          refine (dead_ok HX7.out.p1).mono ?_
          rintro e w5 ⟨rfl, rfl⟩
          rw [HMD.out, HDD.out]
          dsimp only
          refine hK _ _ ⟨⟨e1, e3⟩, trivial⟩ ?_
          clear hK K
          try simp only [Act.put, List.setIfInBounds_toArray, List.set_cons_zero, List.set_cons_succ]
          iterate 2 (first | ((apply plan_pure rfl; (intro w1; go_simp; try go_bits); with_reducible rfl); try simp only [Act.put, List.setIfInBounds_toArray, List.set_cons_zero, List.set_cons_succ]) | ((refine' plan_load 0 rfl (by kernel_rfl) rfl ?_ ?_; rotate_left; (intro w1 hw1; go_simp; with_reducible rfl)); try simp only [Act.put, List.setIfInBounds_toArray, List.set_cons_zero, List.set_cons_succ]))
          refine plan_nil ?_
          go_wp2
          refine ⟨⟨k + 1, by omega, by go_num, ?_⟩, by simp [intOf]; omega⟩
          rw [runP_succ HSQ.out, HD.out, HPL.out]
          exact HX7.out.p2.tail
        by_cases k4 : kd = 4
        · subst kd
          obtain ⟨D2, hD2⟩ : ∃ D2, D2 = D := ⟨_, rfl⟩
          obtain ⟨F, hF⟩ : ∃ F, findR D at_ = F := ⟨_, rfl⟩
          obtain ⟨⟨f0, f1, f2, f3, f4, f5, f6⟩, fe⟩ := F
          have hpl : plD at_ D (⟨4, i0, s, zs, ⟨h0, h1, h2, h3, h4, h5, h6⟩, ax, cx⟩ : Pq) = D2 := by unfold plD; simpa using hD2.symm
          have hf1 : ∀ (w : World) (M : List HP), Sat W w (isDisk b D :: M) → _ := fun w M h => find_ok (W := w) h HRUN.out.ok at_ (by omega) (by omega) HRUN.out.read
          have hf2 : ∀ (w : World) (M : List HP), Sat W w (isRef x D :: M) → _ := fun w M h => refFind_ok (W := w) (at_ := at_) h HM.out HRUN.out.ok (by omega) (by omega) HRUN.out.read
          rw [hF] at hf1 hf2
          dsimp only at hf1 hf2
          rw [show Hd.cells ⟨f0, f1, f2, f3, f4, f5, f6⟩ = #[.int .i64 f0, .int .i64 f1, .int .i64 f2, .int .i64 f3, .int .i64 f4, .int .i64 f5, .int .i64 f6] from rfl] at hf1 hf2
          have HF1 := Lib.hid hf1
          have HF2 := Lib.hid hf2
          clear hf1 hf2 hF
          have hrun2 := HRUN.out.step (by omega) at_ (⟨4, i0, s, zs, ⟨h0, h1, h2, h3, h4, h5, h6⟩, ax, cx⟩ : Pq) HSA.out.2.2.2.1
          rw [hpl] at hrun2
          have HRUN2 := Lib.hid hrun2
          have HPL := Lib.hid hpl
          clear hrun2 hpl
          subst hD2
          go_wp2_with (first
            | (with_reducible refine wpList_store_st HXA.out (⟨4, i0, s, zs, ⟨h0, h1, h2, h3, h4, h5, h6⟩, ax, cx⟩ : Pq) ?_ ?_
               exact ⟨rfl, _, _, rfl, rfl, rfl⟩
               intro w2 hx2
               clear c0 c1 c2 c3 c4 c5 c6 c7 c8 c9 c10
               obtain ⟨t0, t1, t2, t3, t4, t5, t6, t7, t8, t9, t10⟩ := st11 hx2
               have HX2 := Lib.hid hx2
               clear hx2 HXA)
            | (go_at_call 14; with_reducible refine (HF1.out _ _ HX2.out.p2).mono ?_; rintro e3 w3 ⟨rfl, hx3⟩; clear t0 t1 t2 t3 t4 t5 t6 t7 t8 t9 t10; obtain ⟨t0, t1, t2, t3, t4, t5, t6, t7, t8, t9, t10⟩ := st11 hx3.p1; obtain ⟨p3, hp3⟩ : ∃ p, w3.heap.size = p := ⟨_, rfl⟩; have HX3 := Lib.hid (zx hx3); rw [hp3] at HX3; clear hx3)
            | (with_reducible refine wpList_store_hd (HX3.out) (⟨f0, f1, f2, f3, f4, f5, f6⟩) ?_ ?_; exact ⟨rfl, _, _, rfl, rfl, rfl⟩
               intro w4 hx4
               clear t0 t1 t2 t3 t4 t5 t6 t7 t8 t9 t10
               obtain ⟨t0, t1, t2, t3, t4, t5, t6, t7, t8, t9, t10⟩ := st11 hx4.p2
               have HX4 := Lib.hid hx4
               clear hx4 HX3)
            | (go_at_call 15; with_reducible refine (HF2.out _ _ HX4.out.p3).mono ?_; rintro e5 w5 ⟨rfl, hx5⟩; clear t0 t1 t2 t3 t4 t5 t6 t7 t8 t9 t10; obtain ⟨p5, hp5⟩ : ∃ p, w5.heap.size = p := ⟨_, rfl⟩; have HX5 := Lib.hid (zx hx5); rw [hp5] at HX5; clear hx5)
            | (with_reducible refine wpList_store_hd (HX5.out) (⟨f0, f1, f2, f3, f4, f5, f6⟩) ?_ ?_; exact ⟨rfl, _, _, rfl, rfl, rfl⟩
               intro w6 hx6
               obtain ⟨d0, d1, d2, d3, d4, d5, d6⟩ := hd7 hx6
               obtain ⟨q0, q1, q2, q3, q4, q5, q6⟩ := hd7 hx6.p2
               have HX6 := Lib.hid hx6
               clear hx6 HX5))
          have hxe := HX6.out.tail.p1.tail
          have hmd : (madeB D2 && D2.dead) = D2.dead := by rw [HRUN2.out.made (by omega)]; rfl
          have hmw : (if madeB D2 = true then (D2.wait.length : Int) else 0) = D2.wait.length := by rw [HRUN2.out.made (by omega)]; rfl
          have HX7 := Lib.hid hxe.drew
          obtain ⟨ak5, ck5, aw5, cw5, hx5, -, -⟩ := ref_open HX7.out
          obtain ⟨-, e1, -, e3, -, -, -⟩ := ref_cells hx5
          obtain ⟨dd, hdd⟩ : ∃ d, D2.dead = d := ⟨_, rfl⟩
          obtain ⟨wl, hwl⟩ : ∃ d, D2.wait.length = d := ⟨_, rfl⟩
          rw [hdd] at e3
          rw [hwl] at e1
          have HMD := Lib.hid hmd
          have HMW := Lib.hid hmw
          have HDD := Lib.hid hdd
          have HWL := Lib.hid hwl
          clear hmd hmw hdd hwl hx5 hxe
          refine wp_region_planL [(0, true), (2, true), (3, true), (4, true), (5, true), (6, true), (1, false), (7, true), (8, true), (9, true), (11, true), (12, true), (13, true), (14, true), (10, false), (15, true), (16, true)]
            [(17, fun w1 => w1.cell? ⟨x, 1, none⟩ = some (.slice aw5 wl cw5) ∧ w1.cell? ⟨x, 3, none⟩ = some (.bool dd))] (by kernel_rfl) (by kernel_rfl) (by intro c a d v w h; cases d <;> exact h) ?_ ?_
          · exact ⟨⟨e1, e3⟩, trivial⟩
          simp only [planOps, List.getElem?_cons_zero, List.getElem?_cons_succ]
          iterate 6 (first | ((apply plan_pure rfl; (intro w1; go_simp; try go_bits); with_reducible rfl); try simp only [Act.put, List.setIfInBounds_toArray, List.set_cons_zero, List.set_cons_succ]) | ((refine' plan_load 0 rfl (by kernel_rfl) rfl ?_ ?_; rotate_left; (intro w1 hw1; go_simp; with_reducible rfl)); try simp only [Act.put, List.setIfInBounds_toArray, List.set_cons_zero, List.set_cons_succ]))
          refine plan_loud rfl (fun K hK => ?_); go_simp
          refine (waiting_ok HX7.out.p1).mono ?_
          rintro e w5 ⟨rfl, rfl⟩
          rw [HMW.out, HWL.out]
          dsimp only
          refine hK _ _ ⟨⟨e1, e3⟩, trivial⟩ ?_
          clear hK K
          try simp only [Act.put, List.setIfInBounds_toArray, List.set_cons_zero, List.set_cons_succ]
          iterate 7 (first | ((apply plan_pure rfl; (intro w1; go_simp; try go_bits); with_reducible rfl); try simp only [Act.put, List.setIfInBounds_toArray, List.set_cons_zero, List.set_cons_succ]) | ((refine' plan_load 0 rfl (by kernel_rfl) rfl ?_ ?_; rotate_left; (intro w1 hw1; go_simp; with_reducible rfl)); try simp only [Act.put, List.setIfInBounds_toArray, List.set_cons_zero, List.set_cons_succ]))
          refine plan_loud rfl (fun K hK => ?_); go_simp
          refine (dead_ok HX7.out.p1).mono ?_
          rintro e w5 ⟨rfl, rfl⟩
          rw [HMD.out, HDD.out]
          dsimp only
          refine hK _ _ ⟨⟨e1, e3⟩, trivial⟩ ?_
          clear hK K
          try simp only [Act.put, List.setIfInBounds_toArray, List.set_cons_zero, List.set_cons_succ]
          iterate 2 (first | ((apply plan_pure rfl; (intro w1; go_simp; try go_bits); with_reducible rfl); try simp only [Act.put, List.setIfInBounds_toArray, List.set_cons_zero, List.set_cons_succ]) | ((refine' plan_load 0 rfl (by kernel_rfl) rfl ?_ ?_; rotate_left; (intro w1 hw1; go_simp; with_reducible rfl)); try simp only [Act.put, List.setIfInBounds_toArray, List.set_cons_zero, List.set_cons_succ]))
          refine plan_nil ?_
          go_wp2
          refine ⟨⟨k + 1, by omega, by go_num, ?_⟩, by simp [intOf]; omega⟩
          rw [runP_succ HSQ.out, HD.out, HPL.out]
          exact HX7.out.p2.tail
        obtain ⟨F, hF⟩ : ∃ F, saveR D at_ ⟨h0, h1, h2, h3, h4, h5, h6⟩ = F := ⟨_, rfl⟩
        obtain ⟨⟨f0, f1, f2, f3, f4, f5, f6⟩, fe, D2⟩ := F
        have hpl : plD at_ D (⟨kd, i0, s, zs, ⟨h0, h1, h2, h3, h4, h5, h6⟩, ax, cx⟩ : Pq) = D2 := by unfold plD; rw [if_neg k1, if_neg k2, if_neg k3, if_neg k4]; dsimp only; rw [hF]
        have hf1 : ∀ (w : World) (M : List HP), Sat W w (isDisk b D :: M) → _ := fun w M h => save_ok (W := w) (at_ := at_) h HRUN.out.ok (by omega) (by omega) HRUN.out.read ⟨h0, h1, h2, h3, h4, h5, h6⟩ HSA.out.2.2.2.2 (by have := HRUN.out.w; omega) (by have := HRUN.out.wl; omega) (by have := HRUN.out.b; omega)
        have hf2 : ∀ (w : World) (M : List HP), Sat W w (isRef x D :: M) → _ := fun w M h => refSave_ok (W := w) (at_ := at_) h HM.out HRUN.out.ok (by omega) (by omega) HRUN.out.read ⟨h0, h1, h2, h3, h4, h5, h6⟩ HSA.out.2.2.2.2 (by have := HRUN.out.w; omega) (by have := HRUN.out.wl; omega) (by have := HRUN.out.b; omega)
        rw [hF] at hf1 hf2
        have b1 : (kd == 1) = false := beq_eq_false_iff_ne.2 k1
        have b2 : (kd == 2) = false := beq_eq_false_iff_ne.2 k2
        have b3 : (kd == 3) = false := beq_eq_false_iff_ne.2 k3
        have b4 : (kd == 4) = false := beq_eq_false_iff_ne.2 k4
        dsimp only at hf1 hf2
        rw [show Hd.cells ⟨f0, f1, f2, f3, f4, f5, f6⟩ = #[.int .i64 f0, .int .i64 f1, .int .i64 f2, .int .i64 f3, .int .i64 f4, .int .i64 f5, .int .i64 f6] from rfl] at hf1 hf2
        have HF1 := Lib.hid hf1
        have HF2 := Lib.hid hf2
        clear hf1 hf2 hF
        rw [show Hd.cells ⟨h0, h1, h2, h3, h4, h5, h6⟩ = #[.int .i64 h0, .int .i64 h1, .int .i64 h2, .int .i64 h3, .int .i64 h4, .int .i64 h5, .int .i64 h6] from rfl] at HF1 HF2
        have hrun2 := HRUN.out.step (by omega) at_ (⟨kd, i0, s, zs, ⟨h0, h1, h2, h3, h4, h5, h6⟩, ax, cx⟩ : Pq) HSA.out.2.2.2.1
        rw [hpl] at hrun2
        have HRUN2 := Lib.hid hrun2
        have HPL := Lib.hid hpl
        clear hrun2 hpl
        go_wp2_with (first
          | (with_reducible refine wpList_store_st HXA.out (⟨kd, i0, s, zs, ⟨h0, h1, h2, h3, h4, h5, h6⟩, ax, cx⟩ : Pq) ?_ ?_
             exact ⟨rfl, _, _, rfl, rfl, rfl⟩
             intro w2 hx2
             clear c0 c1 c2 c3 c4 c5 c6 c7 c8 c9 c10
             obtain ⟨t0, t1, t2, t3, t4, t5, t6, t7, t8, t9, t10⟩ := st11 hx2
             have HX2 := Lib.hid hx2
             clear hx2 HXA)
          | (go_at_call 16; with_reducible refine (HF1.out _ _ HX2.out.p2).mono ?_; rintro e3 w3 ⟨rfl, hx3⟩; clear t0 t1 t2 t3 t4 t5 t6 t7 t8 t9 t10; obtain ⟨t0, t1, t2, t3, t4, t5, t6, t7, t8, t9, t10⟩ := st11 hx3.p1; obtain ⟨p3, hp3⟩ : ∃ p, w3.heap.size = p := ⟨_, rfl⟩; have HX3 := Lib.hid (zx hx3); rw [hp3] at HX3; clear hx3)
          | (with_reducible refine wpList_store_hd (HX3.out) (⟨f0, f1, f2, f3, f4, f5, f6⟩) ?_ ?_; exact ⟨rfl, _, _, rfl, rfl, rfl⟩
             intro w4 hx4
             clear t0 t1 t2 t3 t4 t5 t6 t7 t8 t9 t10
             obtain ⟨t0, t1, t2, t3, t4, t5, t6, t7, t8, t9, t10⟩ := st11 hx4.p2
             have HX4 := Lib.hid hx4
             clear hx4 HX3)
          | (go_at_call 17; with_reducible refine (HF2.out _ _ HX4.out.p3).mono ?_; rintro e5 w5 ⟨rfl, hx5⟩; clear t0 t1 t2 t3 t4 t5 t6 t7 t8 t9 t10; obtain ⟨p5, hp5⟩ : ∃ p, w5.heap.size = p := ⟨_, rfl⟩; have HX5 := Lib.hid (zx hx5); rw [hp5] at HX5; clear hx5)
          | (with_reducible refine wpList_store_hd (HX5.out) (⟨f0, f1, f2, f3, f4, f5, f6⟩) ?_ ?_; exact ⟨rfl, _, _, rfl, rfl, rfl⟩
             intro w6 hx6
             obtain ⟨d0, d1, d2, d3, d4, d5, d6⟩ := hd7 hx6
             obtain ⟨q0, q1, q2, q3, q4, q5, q6⟩ := hd7 hx6.p2
             have HX6 := Lib.hid hx6
             clear hx6 HX5))
        have hxe := HX6.out.tail.p1.tail
        have hmd : (madeB D2 && D2.dead) = D2.dead := by rw [HRUN2.out.made (by omega)]; rfl
        have hmw : (if madeB D2 = true then (D2.wait.length : Int) else 0) = D2.wait.length := by rw [HRUN2.out.made (by omega)]; rfl
        have HX7 := Lib.hid hxe.drew
        obtain ⟨ak5, ck5, aw5, cw5, hx5, -, -⟩ := ref_open HX7.out
        obtain ⟨-, e1, -, e3, -, -, -⟩ := ref_cells hx5
        obtain ⟨dd, hdd⟩ : ∃ d, D2.dead = d := ⟨_, rfl⟩
        obtain ⟨wl, hwl⟩ : ∃ d, D2.wait.length = d := ⟨_, rfl⟩
        rw [hdd] at e3
        rw [hwl] at e1
        have HMD := Lib.hid hmd
        have HMW := Lib.hid hmw
        have HDD := Lib.hid hdd
        have HWL := Lib.hid hwl
        clear hmd hmw hdd hwl hx5 hxe
        refine wp_region_planL [(0, true), (2, true), (3, true), (4, true), (5, true), (6, true), (1, false), (7, true), (8, true), (9, true), (11, true), (12, true), (13, true), (14, true), (10, false), (15, true), (16, true)]
          [(17, fun w1 => w1.cell? ⟨x, 1, none⟩ = some (.slice aw5 wl cw5) ∧ w1.cell? ⟨x, 3, none⟩ = some (.bool dd))] (by kernel_rfl) (by kernel_rfl) (by intro c a d v w h; cases d <;> exact h) ?_ ?_
        · exact ⟨⟨e1, e3⟩, trivial⟩
        simp only [planOps, List.getElem?_cons_zero, List.getElem?_cons_succ]
        iterate 6 (first | ((apply plan_pure rfl; (intro w1; go_simp; try go_bits); with_reducible rfl); try simp only [Act.put, List.setIfInBounds_toArray, List.set_cons_zero, List.set_cons_succ]) | ((refine' plan_load 0 rfl (by kernel_rfl) rfl ?_ ?_; rotate_left; (intro w1 hw1; go_simp; with_reducible rfl)); try simp only [Act.put, List.setIfInBounds_toArray, List.set_cons_zero, List.set_cons_succ]))
        refine plan_loud rfl (fun K hK => ?_); go_simp
        refine (waiting_ok HX7.out.p1).mono ?_
        rintro e w5 ⟨rfl, rfl⟩
        rw [HMW.out, HWL.out]
        dsimp only
        refine hK _ _ ⟨⟨e1, e3⟩, trivial⟩ ?_
        clear hK K
        try simp only [Act.put, List.setIfInBounds_toArray, List.set_cons_zero, List.set_cons_succ]
        iterate 7 (first | ((apply plan_pure rfl; (intro w1; go_simp; try go_bits); with_reducible rfl); try simp only [Act.put, List.setIfInBounds_toArray, List.set_cons_zero, List.set_cons_succ]) | ((refine' plan_load 0 rfl (by kernel_rfl) rfl ?_ ?_; rotate_left; (intro w1 hw1; go_simp; with_reducible rfl)); try simp only [Act.put, List.setIfInBounds_toArray, List.set_cons_zero, List.set_cons_succ]))
        refine plan_loud rfl (fun K hK => ?_); go_simp
        refine (dead_ok HX7.out.p1).mono ?_
        rintro e w5 ⟨rfl, rfl⟩
        rw [HMD.out, HDD.out]
        dsimp only
        refine hK _ _ ⟨⟨e1, e3⟩, trivial⟩ ?_
        clear hK K
        try simp only [Act.put, List.setIfInBounds_toArray, List.set_cons_zero, List.set_cons_succ]
        iterate 2 (first | ((apply plan_pure rfl; (intro w1; go_simp; try go_bits); with_reducible rfl); try simp only [Act.put, List.setIfInBounds_toArray, List.set_cons_zero, List.set_cons_succ]) | ((refine' plan_load 0 rfl (by kernel_rfl) rfl ?_ ?_; rotate_left; (intro w1 hw1; go_simp; with_reducible rfl)); try simp only [Act.put, List.setIfInBounds_toArray, List.set_cons_zero, List.set_cons_succ]))
        refine plan_nil ?_
        go_wp2
        refine ⟨⟨k + 1, by omega, by go_num, ?_⟩, by simp [intOf]; omega⟩
        rw [runP_succ HSQ.out, HD.out, HPL.out]
        exact HX7.out.p2.tail
      · obtain rfl : k = len := by omega
        have hkl : D.kept.length = 5 := HRUN.out.len
        obtain ⟨ak5, ck5, aw5, cw5, hx5, -, -⟩ := ref_open HX.out
        rw [hkl] at hx5
        have e0 := (ref_cells hx5.drew).1
        have HX5 := Lib.hid hx5.drew
        have HKL := Lib.hid hkl
        clear hx5 hkl
        go_wp2
        refine wp_region_planL [(0, true), (2, true), (3, true), (4, true), (5, true), (1, false), (6, false), (7, true), (8, false), (9, true), (10, true)]
          [(6, fun w1 => w1.cell? ⟨x, 0, none⟩ = some (.slice ak5 5 ck5))] (by kernel_rfl) (by kernel_rfl) (by intro c a d v w h; cases d <;> exact h) ?_ ?_
        · exact ⟨e0, trivial⟩
        simp only [planOps, List.getElem?_cons_zero, List.getElem?_cons_succ]
        iterate 5 (first | ((apply plan_pure rfl; (intro w1; go_simp; try go_bits); with_reducible rfl); try simp only [Act.put, List.setIfInBounds_toArray, List.set_cons_zero, List.set_cons_succ]) | ((refine' plan_load 0 rfl (by kernel_rfl) rfl ?_ ?_; rotate_left; (intro w1 hw1; go_simp; with_reducible rfl)); try simp only [Act.put, List.setIfInBounds_toArray, List.set_cons_zero, List.set_cons_succ]))
        refine plan_loud rfl (fun K hK => ?_); go_simp
        refine (image_ok HX5.out.p3 HRUN.out.ok).mono ?_
        rintro e w6 ⟨v, rfl, hx6⟩
        obtain ⟨av, cv, rfl, -⟩ := rowSlice hx6
        rw [HKL.out] at hx6 ⊢
        dsimp only
        unfold StrRow at hx6
        rw [HKL.out] at hx6
        refine hK _ _ ⟨cell_blk hx6.p2.at 0, trivial⟩ ?_
        clear hK K
        refine plan_loud rfl (fun K hK => ?_); go_simp
        refine (sameS_ok hx6.p3.p1 HKL.out (by omega)).mono ?_
        rintro e w7 ⟨rfl, hx7⟩
        dsimp only
        refine hK _ _ trivial ?_
        clear hK K
        try simp only [Act.put, List.setIfInBounds_toArray, List.set_cons_zero, List.set_cons_succ]
        iterate 1 (first | ((apply plan_pure rfl; (intro w1; go_simp; try go_bits); with_reducible rfl); try simp only [Act.put, List.setIfInBounds_toArray, List.set_cons_zero, List.set_cons_succ]) | ((refine' plan_load 0 rfl (by kernel_rfl) rfl ?_ ?_; rotate_left; (intro w1 hw1; go_simp; with_reducible rfl)); try simp only [Act.put, List.setIfInBounds_toArray, List.set_cons_zero, List.set_cons_succ]))
        refine plan_loud rfl (fun K hK => ?_); go_simp
        refine (headKnown_ok _).mono ?_
        rintro e w8 ⟨rfl, hb⟩
        dsimp only
        refine hK _ _ trivial ?_
        clear hK K
        try simp only [Act.put, List.setIfInBounds_toArray, List.set_cons_zero, List.set_cons_succ]
        iterate 2 (first | ((apply plan_pure rfl; (intro w1; go_simp; try go_bits); with_reducible rfl); try simp only [Act.put, List.setIfInBounds_toArray, List.set_cons_zero, List.set_cons_succ]) | ((refine' plan_load 0 rfl (by kernel_rfl) rfl ?_ ?_; rotate_left; (intro w1 hw1; go_simp; with_reducible rfl)); try simp only [Act.put, List.setIfInBounds_toArray, List.set_cons_zero, List.set_cons_succ]))
        refine plan_nil ?_
        go_wp2
        go_ret
        exact ⟨rfl, plays_known hx7.p5 hb⟩
  · go_enter Tryz.func3, Tryz.ntmps3
    go_wp2_with (first | (go_at_call 4; refine HL.out.mono ?_; rintro e w2 ⟨rfl, rfl⟩) | (go_at_call 5; refine (headKnown_ok _).mono ?_; rintro e w2 ⟨rfl, hb⟩))
    go_ret
    exact ⟨rfl, hb⟩
end Go.Proofs.YtmkpglabiikdeaaGreat

