/-
  posthouse/ring: the records that stand there: the iterator, walked.
-/
import Derived.Scope
import Derived.LoopNIn
import Derived.LoopIn
import Derived.Shelf.Abstract
import Derived.Shelf.RegionOpen
import Derived.Test.YtmkpglabiikdeaaGreatDoorRingB
import Derived.Test.YtmkpglabiikdeaaGreatDoorRangeS
import Derived.Test.YtmkpglabiikdeaaGreatDoorRangeW
namespace Go.Proofs.YtmkpglabiikdeaaGreatDoor
open Go.RowKit PH
attribute [local go_sem] Oper.semAt_some
attribute [local irreducible] fld pcB pcOfB left

theorem wpListIn_store_pc {F : Fence} {n : Nat} {E w : World} {L : List HP} {ops : Array Oper} {rest : List Oper} {op : Oper} {a : Act} {Q : Exit → Act → World → Prop} {q : Nat} {U : Pc} (S : Sat E w (pt q (.cells U.arr 23) :: L)) (V : Pc)
    (hop : op.guard = none ∧ ∃ x y : Operand, op.op = .store 23 x y ∧ a.eval x = .pointer (some ⟨q, 0, none⟩) ∧ a.eval y = .agg #[.int .i64 V.epoch, .int .i64 V.seq, .int .i64 V.part, .int .i64 V.parts, .string V.data])
    (h : ∀ w', Sat E w' (pt q (.cells V.arr 23) :: L) → wpListIn F n Tryz.prog ops Q rest (a.put op.dst undef) w') : wpListIn F n Tryz.prog ops Q (op :: rest) a w :=
  by
  obtain ⟨hgd, x, y, ho, hx, hy⟩ := hop
  have hy' : a.eval y = .agg V.arr := hy
  refine wpListIn_plain hgd fun K hK => ?_
  unfold Oper.wpIn
  refine ⟨?_, ?_⟩
  · simp [Oper.about, ho]
  · rw [Oper.semAt_plain F _ _ (by rw [ho]; intro c hc; cases hc)]
    unfold execOp
    simp only [ho, hx, hy', Instr.storeAt, Instr.sureAddr, Sem.run_bind, Sem.run_pure, Result.andThen_ok, run_storeVar_mid w q 0 23 V.arr (pt_there S rfl) infoPc (pc_one V)]
    exact hK _ _ (h _ (setCells_all (C := V.arr) S rfl))

theorem ringStands_ok {q : Nat} (st sq si : Int) (w : World) : Calls Tryz.prog 58 #[.pointer (some ⟨q, 0, none⟩), .int .i64 st, .int .i64 sq, .int .i64 si] w fun e w' =>
    e = .returned (.func (.func 89) #[] #[.pointer (some ⟨w.heap.size + 1 + 1 + 1, 0, none⟩), .pointer (some ⟨w.heap.size, 0, none⟩), .pointer (some ⟨w.heap.size + 1, 0, none⟩), .pointer (some ⟨w.heap.size + 1 + 1, 0, none⟩)]) ∧
      w' = (((w.alloc (.cells #[.pointer (some ⟨q, 0, none⟩)] 42)).alloc (.cells #[.int .i64 st] 3)).alloc (.cells #[.int .i64 sq] 3)).alloc (.cells #[.int .i64 si] 3) := by
  go_enter Tryz.func58, Tryz.ntmps58
  go_wp2
  go_ret
  exact ⟨rfl, rfl⟩

/-- A journal behind so many found records. -/
def rgAfter (r : Rg) (ys : List (List Pc)) : Rg := { r with used := r.used + (ys.map List.length).sum, seq := r.seq + ys.length }
def recV (l : List Pc) : Array Value := #[.string (joined l), .int .i64 l.length]
def boxes (q q1 q2 q3 q4 : Nat) (st sq si : Int) : HP := seps [pt q1 (.cells #[.int .i64 si] 3), pt q2 (.cells #[.pointer (some ⟨q, 0, none⟩)] 42), pt q3 (.cells #[.int .i64 st] 3), pt q4 (.cells #[.int .i64 sq] 3)]
theorem stands_stop {f : Nat → Option Pc} {C : Nat} {E : Int} {k b : Nat} {least seq : Int} (h : C ≤ b ∨ recAt f C b seq = none ∨ ∃ l, recAt f C b seq = some l ∧ (epochOf l < least ∨ E ≤ epochOf l)) : stands f C E k b least seq = [] := by
  cases k with
  | zero => rfl
  | succ k =>
    unfold stands
    rcases h with h | h | ⟨l, h, h2⟩
    · rw [if_neg (by omega)]
    · rw [h]; simp
    · rw [h]; simp [h2]
theorem stands_go {f : Nat → Option Pc} {C : Nat} {E : Int} {k b : Nat} {least seq : Int} {l : List Pc} (hb : b < C) (h : recAt f C b seq = some l) (h2 : ¬ (epochOf l < least ∨ E ≤ epochOf l)) : stands f C E (k + 1) b least seq = l :: stands f C E k (b + l.length) (epochOf l) (seq + 1) := by
  conv => lhs; unfold stands
  rw [if_pos hb, h]
  dsimp only
  rw [if_neg h2]
theorem whole_epoch {l : List Pc} (h : whole l = true) : (l.getD 0 noPc).epoch = epochOf l := by
  obtain ⟨h0, _⟩ := goods_all h
  unfold epochOf
  rw [List.getD_eq_getElem?_getD, List.getElem?_eq_getElem h0]; rfl
theorem stands_len {f : Nat → Option Pc} {C : Nat} {E : Int} : ∀ {k b : Nat} {least seq : Int}, b ≤ C → b + ((stands f C E k b least seq).map List.length).sum ≤ C ∧ (stands f C E k b least seq).length ≤ ((stands f C E k b least seq).map List.length).sum := by
  intro k
  induction k with
  | zero => intro b least seq h; simpa [stands] using h
  | succ k ih =>
    intro b least seq h
    unfold stands
    split
    · split
      · rename_i l hl
        split
        · simpa using h
        · obtain ⟨w, hf, hs, hc⟩ := recAt_some hl
          obtain ⟨h0, _⟩ := goods_all w
          have := ih (b := b + l.length) (least := epochOf l) (seq := seq + 1) hc
          simp only [List.map_cons, List.sum_cons, List.length_cons]
          omega
      · simpa using h
    · simpa using h

theorem sat_p7 {E w : World} {A B C D F G H I : HP} {L : List HP} (x : Sat E w (A :: B :: C :: D :: F :: G :: H :: I :: L)) : Sat E w (I :: A :: B :: C :: D :: F :: G :: H :: L) := (x.mono (Sat.under (Sat.under (Sat.under (Sat.under (Sat.under (Sat.under swap0))))))).p6
def shR (q b : Nat) (r : Rg) (D : Dk) (ys : List (List Pc)) : HP := seps [isRing q b (rgAfter r ys), isDisk b D]
section
variable {E w : World} {L : List HP} {R D J B1 B2 B3 B4 K : HP}
theorem st_open (x : Sat E w (seps [R, D] :: J :: seps [B1, B2, B3, B4] :: L)) : Sat E w (R :: D :: B1 :: B2 :: B3 :: B4 :: J :: L) := x.flat.p3.flat.p5.p5
theorem st_mid (x : Sat E w (K :: R :: D :: B1 :: B2 :: B3 :: B4 :: J :: L)) : Sat E w (seps [R, D] :: J :: K :: B1 :: B2 :: B3 :: B4 :: L) := ((sat_p7 x).p3.p3.pack [_, _])
theorem st_close (x : Sat E w (B4 :: seps [R, D] :: J :: K :: B1 :: B2 :: B3 :: L)) : Sat E w (seps [R, D] :: J :: seps [B1, B2, B3, B4] :: L) := (x.p3.tail.p5.p5.p5.pack [_, _, _, _]).p2.p2
theorem st_end (x : Sat E w (seps [R, D] :: J :: K :: B1 :: B2 :: B3 :: B4 :: L)) : Sat E w (seps [R, D] :: J :: fact True :: L) := ((x.p2.tail.p2.tail.p2.tail.p2.tail.p2.tail).mkFact trivial).p2.p2
theorem st_end0 (x : Sat E w (seps [R, D] :: J :: B1 :: L)) : Sat E w (seps [R, D] :: J :: fact True :: L) := ((x.p2.tail).mkFact trivial).p2.p2
end
theorem cell_one {E w : World} {L : List HP} {q : Nat} {v : Value} {ty : TypeId} (x : Sat E w (pt q (.cells #[v] ty) :: L)) : w.cell? ⟨q, 0, none⟩ = some v := cell_blk x.at 0
theorem wpIn_scope_wide {n : Nat} {P : Program} {c : Code} {Q : Exit → Act → World → Prop} {a : Act} {w : World} (h : c.wpIn Fence.wide n P (Exit.noGoto Q) a w) : (Code.scope c).wpIn Fence.wide n P Q a w := wpIn_wide.2 (wp_scope_straight (wpIn_wide.1 h))
set_option maxRecDepth 100000 in
set_option maxHeartbeats 3200000 in
theorem stands1_seq {q b q1 q2 q3 q4 : Nat} {r : Rg} {D : Dk} (ok : OkD D) (ha : aliveE D = 0) (hc : 0 < r.cnt) (hc1 : r.fro + r.cnt ≤ D.kept.length) (hc2 : D.kept.length ≤ 100000)
    (hR : ∀ i, (readV D i).size ≤ 9223372036854775807) (start : Nat) (hst : start ≤ 100000) (since seq0 : Int) (hq0 : 0 ≤ seq0) {tot : List (List Pc)} (hq1 : seq0 + tot.length ≤ 9223372036854775807) (htot : stands (pcAt D r start) r.cnt r.ep r.cnt 0 since seq0 = tot) :
    SeqSH Tryz.prog 89 #[.pointer (some ⟨q1, 0, none⟩), .pointer (some ⟨q2, 0, none⟩), .pointer (some ⟨q3, 0, none⟩), .pointer (some ⟨q4, 0, none⟩)] recV (shR q b r D) (boxes q q1 q2 q3 q4 start seq0 since) (fact True) (fun ys => ys = tot) (fun _ => True) (fun pre x => ∃ rest, pre ++ x :: rest = tot) := by
  intro y n EW J Jx hY W L h0
  have hlen : tot.length ≤ r.cnt := by
    have := stands_len (f := pcAt D r start) (C := r.cnt) (E := r.ep) (k := r.cnt) (b := 0) (least := since) (seq := seq0) (by omega)
    rw [htot] at this
    omega
  have hwh : ∀ (pre : List (List Pc)) (bh : Nat) (hbh : bh ≤ 100000) (sq : Int) (W : World) (M : List HP), Sat EW W (isRing q b (rgAfter r pre) :: isDisk b D :: M) → Calls Tryz.prog 90 #[.pointer (some ⟨q, 0, none⟩), .int .i64 start, .int .i64 bh, .int .i64 sq] W fun e w' =>
      e = .returned (.tuple #[.string (wholeS (pcAt D r start) r.cnt bh sq), .agg (wholeP (pcAt D r start) r.cnt bh sq).arr, .int .i64 (wholeN (pcAt D r start) r.cnt bh sq)]) ∧ Sat EW w' (isRing q b (rgAfter r pre) :: isDisk b D :: M) :=
    fun pre bh hbh sq W M x => rwhole_ok (r := rgAfter r pre) x ok ha hc hc1 hc2 hR start bh sq hst hbh
  obtain ⟨f, hf⟩ : ∃ f, pcAt D r start = f := ⟨_, rfl⟩
  rw [hf] at hwh htot
  obtain ⟨C, hC⟩ : ∃ C, r.cnt = C := ⟨_, rfl⟩
  obtain ⟨EP, hEP⟩ : ∃ C, r.ep = C := ⟨_, rfl⟩
  rw [hC] at hwh htot hlen hc hc1
  rw [hEP] at htot
  have hring : ∀ (pre : List (List Pc)) (W : World) (M : List HP), Sat EW W (isRing q b (rgAfter r pre) :: M) → W.cell? ⟨q, 2, none⟩ = some (.int .i64 C) ∧ W.cell? ⟨q, 6, none⟩ = some (.int .i64 EP) := fun pre W M x => by
    obtain ⟨-, -, c2, -, -, -, c6⟩ := ring7 x
    rw [← hC, ← hEP]
    exact ⟨c2, c6⟩
  have HWH := Lib.hid hwh
  have HRI := Lib.hid hring
  have HY0 := Lib.hid hY
  have HTOT := Lib.hid htot
  have h0a := st_open h0
  have i1 : W.drew.cell? ⟨q1, 0, none⟩ = some (.int .i64 since) := by rw [cell_blk h0a.drew.p2.at]; rfl
  have H0 := Lib.hid h0
  clear hwh hring hY htot hR hf hC hEP h0 h0a ok
  have hC100 : C ≤ 100000 := by omega
  refine callsIn_of_wp Tryz.func89 rfl trivial ?_ rfl
  simp only [Tryz.ntmps89, List.size_toArray, List.length_cons, List.length_nil, Nat.reduceAdd, Nat.reduceSub, Array.replicate_succ, Array.replicate_zero, List.push_toArray, List.append_toArray, List.nil_append, List.cons_append]
  refine wpIn_scope_wide ?_
  refine wpIn_seq_k (fun K hK => ?_)
  refine wpIn_region_planN [(0, true), (1, true), (2, true)]
    [(3, fun w1 => w1.cell? ⟨q1, 0, none⟩ = some (.int .i64 since))] (by kernel_rfl) (by kernel_rfl) (by kernel_rfl) ?_ ?_
  · exact ⟨i1, trivial⟩
  simp only [planOps, List.getElem?_cons_zero, List.getElem?_cons_succ]
  iterate 3 (first | ((apply plan_pure rfl; (intro w1; go_simp; try go_bits); with_reducible rfl); try simp only [Act.put, List.setIfInBounds_toArray, List.set_cons_zero, List.set_cons_succ]) | ((refine' plan_load 0 rfl (by kernel_rfl) rfl ?_ ?_; rotate_left; (intro w1 hw1; go_simp; with_reducible rfl)); try simp only [Act.put, List.setIfInBounds_toArray, List.set_cons_zero, List.set_cons_succ]))
  refine plan_nil ?_
  simp only [onlyN]
  refine hK _ _ ?_
  clear hK K
  refine wpIn_seq_k (fun K hK => ?_)
  refine wpIn_label ?_
  refine hK _ _ ?_
  clear hK K
  gi_wp2
  gi_loopw [6, 7] (fun bv lv wr => ∃ (B : Nat) (least : Int) (k : Nat) (pre : List (List Pc)) (sq : Int), bv = .int .i64 B ∧ lv = .int .i64 least ∧ B ≤ C ∧ C - B ≤ k ∧ pre ++ stands f C EP k B least sq = tot ∧ sq = seq0 + pre.length ∧
    Sat EW wr (shR q b r D pre :: J pre :: boxes q q1 q2 q3 q4 start sq since :: L)) (fun bv _ _ => C - (intOf bv).toNat)
  case atStart => exact ⟨0, since, C, [], seq0, rfl, rfl, by omega, by omega, HTOT.out, by simp, H0.out.drew⟩
  case round =>
    clear i1
    obtain ⟨B, least, k, pre, sq, rfl, rfl, hB, hk, htot, hsq, hx⟩ := hrel
    have hx1 := st_open hx
    obtain ⟨g2, g6⟩ := HRI.out _ _ _ hx1
    have b2 : wr.cell? ⟨q2, 0, none⟩ = some (.pointer (some ⟨q, 0, none⟩)) := by rw [cell_blk hx1.p3.at]; rfl
    have b3 : wr.cell? ⟨q3, 0, none⟩ = some (.int .i64 start) := by rw [cell_blk hx1.p4.at]; rfl
    have b4 : wr.cell? ⟨q4, 0, none⟩ = some (.int .i64 sq) := by rw [cell_blk hx1.p5.at]; rfl
    have hsb : 0 ≤ sq ∧ sq ≤ 9223372036854775807 := by
      have := congrArg List.length htot
      rw [List.length_append] at this
      omega
    have HSQ := Lib.hid hsq
    have HX := Lib.hid hx
    have HX1 := Lib.hid hx1
    have HT := Lib.hid htot
    clear hx hx1 htot hsq
    by_cases hlt : B < C
    · have hwh := HWH.out pre B (by omega) sq
      cases hrec : recAt f C B sq with
      | none =>
        obtain ⟨e1, e2, e3⟩ := whole_none hrec
        rw [e1, e2, e3] at hwh
        have hstop := stands_stop (E := EP) (k := k) (least := least) (.inr (.inl hrec) : C ≤ B ∨ _)
        have ht := HT.out
        rw [hstop, List.append_nil] at ht
        obtain ⟨⟨p0, p1, p2, p3, p4⟩, hp⟩ : ∃ p, noPc = p := ⟨_, rfl⟩
        rw [hp] at hwh
        have HW1 := Lib.hid hwh
        have HFIN := Lib.hid ht
        clear hwh e1 e2 e3 hstop ht hrec hp
        gi_wp2_with (first
          | (refine ⟨trivial, fun h => by simp [Fence.wide] at h, (callsIn_wide.2 (HW1.out _ _ HX1.out)).mono ?_⟩; rintro e w2 ⟨rfl, hx2⟩; obtain ⟨k5, hk5⟩ : ∃ q, w2.heap.size = q := ⟨_, rfl⟩; have hx2 := zp hx2; rw [hk5] at hx2; have HX2 := Lib.hid hx2; clear hx2 g2 g6 b2 b3 b4)
          | (with_reducible refine wpListIn_store_pc HX2.out ⟨p0, p1, p2, p3, p4⟩ ?_ ?_; exact ⟨rfl, _, _, rfl, rfl, rfl⟩; intro w4 hx4; have hx5 := hx4.drew; obtain ⟨g2, g6⟩ := HRI.out _ _ _ hx5.p1; have d0 : w4.drew.cell? ⟨k5, 0, none⟩ = some (.int .i64 p0) := (pc5 (p := ⟨p0, p1, p2, p3, p4⟩) hx5).1; have b2 : w4.drew.cell? ⟨q2, 0, none⟩ = some (.pointer (some ⟨q, 0, none⟩)) := cell_one hx5.p4; have HX4 := Lib.hid hx5; clear hx4 hx5))
        refine wpIn_region_planN [(0, true), (1, true), (2, true), (3, true), (4, true), (5, true), (6, true), (7, true), (8, true), (9, true), (10, true), (11, true), (12, true), (13, true), (14, true), (15, true), (16, true), (17, true)]
          [(18, fun w1 => w1.cell? ⟨k5, 0, none⟩ = some (.int .i64 p0) ∧ w1.cell? ⟨q2, 0, none⟩ = some (.pointer (some ⟨q, 0, none⟩)) ∧ w1.cell? ⟨q, 6, none⟩ = some (.int .i64 EP))] (by kernel_rfl) (by kernel_rfl) (by kernel_rfl) ?_ ?_
        · exact ⟨⟨d0, b2, g6⟩, trivial⟩
        simp only [planOps, List.getElem?_cons_zero, List.getElem?_cons_succ]
        iterate 18 (first | (apply plan_skip rfl; try simp only [Act.put, List.setIfInBounds_toArray, List.set_cons_zero, List.set_cons_succ]) | ((apply plan_pure rfl; (intro w1; go_simp; try go_bits); with_reducible rfl); try simp only [Act.put, List.setIfInBounds_toArray, List.set_cons_zero, List.set_cons_succ]) | ((refine' plan_load 0 rfl (by kernel_rfl) rfl ?_ ?_; rotate_left; (intro w1 hw1; go_simp; with_reducible rfl)); try simp only [Act.put, List.setIfInBounds_toArray, List.set_cons_zero, List.set_cons_succ]))
        refine plan_nil ?_
        simp only [onlyN]
        clear d0 b2 g2 g6
        gi_wp2
        simp only [Exit.noGoto]
        refine bodyPost_end (results_none rfl _ _ _) rfl ?_
        exact ⟨⟨_, rfl⟩, .inl ⟨_, HFIN.out, st_end (st_mid HX4.out)⟩⟩
      | some l =>
        obtain ⟨hwl, -, -, hbl⟩ := recAt_some hrec
        obtain ⟨hl0, -⟩ := goods_all hwl
        have hep := whole_epoch hwl
        obtain ⟨e1, e2, e3⟩ := whole_some hrec
        rw [e1, e2, e3] at hwh
        obtain ⟨N, hN⟩ : ∃ N, l.length = N := ⟨_, rfl⟩
        obtain ⟨⟨p0, p1, p2, p3, p4⟩, hp⟩ : ∃ p, l.getD 0 noPc = p := ⟨_, rfl⟩
        rw [hp] at hep hwh
        dsimp only at hep
        rw [hN] at hwh hbl hl0
        obtain ⟨S, hS⟩ : ∃ S, joined l = S := ⟨_, rfl⟩
        rw [hS] at hwh
        have hnb : ((N : Int) == 0) = false := beq_eq_false_iff_ne.2 (by omega)
        have hn0 : ¬ N = 0 := by omega
        have hn0b : (N == 0) = false := beq_eq_false_iff_ne.2 hn0
        have HW1 := Lib.hid hwh
        have HEP := Lib.hid hep
        have HN := Lib.hid hN
        have HSS := Lib.hid hS
        have HREC := Lib.hid hrec
        clear hwh e1 e2 e3 hrec hp hep hN hS hwl
        by_cases hs1 : p0 < least
        · have ht := HT.out
          rw [stands_stop (E := EP) (k := k) (least := least) (.inr (.inr ⟨l, HREC.out, .inl (by rw [← HEP.out]; exact hs1)⟩) : C ≤ B ∨ _), List.append_nil] at ht
          have HFIN := Lib.hid ht
          clear ht
          gi_wp2_with (first
            | (refine ⟨trivial, fun h => by simp [Fence.wide] at h, (callsIn_wide.2 (HW1.out _ _ HX1.out)).mono ?_⟩; rintro e w2 ⟨rfl, hx2⟩; obtain ⟨k5, hk5⟩ : ∃ q, w2.heap.size = q := ⟨_, rfl⟩; have hx2 := zp hx2; rw [hk5] at hx2; have HX2 := Lib.hid hx2; clear hx2 g2 g6 b2 b3 b4)
            | (with_reducible refine wpListIn_store_pc HX2.out ⟨p0, p1, p2, p3, p4⟩ ?_ ?_; exact ⟨rfl, _, _, rfl, rfl, rfl⟩; intro w4 hx4; have hx5 := hx4.drew; obtain ⟨g2, g6⟩ := HRI.out _ _ _ hx5.p1; have d0 : w4.drew.cell? ⟨k5, 0, none⟩ = some (.int .i64 p0) := (pc5 (p := ⟨p0, p1, p2, p3, p4⟩) hx5).1; have b2 : w4.drew.cell? ⟨q2, 0, none⟩ = some (.pointer (some ⟨q, 0, none⟩)) := cell_one hx5.p4; have HX4 := Lib.hid hx5; clear hx4 hx5))
          refine wpIn_region_planN [(0, true), (1, true), (2, true), (3, true), (4, true), (5, true), (6, true), (7, true), (8, true), (9, true), (10, true), (11, true), (12, true), (13, true), (14, true), (15, true), (16, true), (17, true)]
            [(18, fun w1 => w1.cell? ⟨k5, 0, none⟩ = some (.int .i64 p0) ∧ w1.cell? ⟨q2, 0, none⟩ = some (.pointer (some ⟨q, 0, none⟩)) ∧ w1.cell? ⟨q, 6, none⟩ = some (.int .i64 EP))] (by kernel_rfl) (by kernel_rfl) (by kernel_rfl) ?_ ?_
          · exact ⟨⟨d0, b2, g6⟩, trivial⟩
          simp only [planOps, List.getElem?_cons_zero, List.getElem?_cons_succ]
          iterate 18 (first | (apply plan_skip rfl; try simp only [Act.put, List.setIfInBounds_toArray, List.set_cons_zero, List.set_cons_succ]) | ((apply plan_pure rfl; (intro w1; go_simp; try go_bits); with_reducible rfl); try simp only [Act.put, List.setIfInBounds_toArray, List.set_cons_zero, List.set_cons_succ]) | ((refine' plan_load 0 rfl (by kernel_rfl) rfl ?_ ?_; rotate_left; (intro w1 hw1; go_simp; with_reducible rfl)); try simp only [Act.put, List.setIfInBounds_toArray, List.set_cons_zero, List.set_cons_succ]))
          refine plan_nil ?_
          simp only [onlyN]
          clear d0 b2 g2 g6
          gi_wp2
          simp only [Exit.noGoto]
          refine bodyPost_end (results_none rfl _ _ _) rfl ?_
          exact ⟨⟨_, rfl⟩, .inl ⟨_, HFIN.out, st_end (st_mid HX4.out)⟩⟩
        by_cases hs2 : EP ≤ p0
        · have ht := HT.out
          rw [stands_stop (E := EP) (k := k) (least := least) (.inr (.inr ⟨l, HREC.out, .inr (by rw [← HEP.out]; exact hs2)⟩) : C ≤ B ∨ _), List.append_nil] at ht
          have HFIN := Lib.hid ht
          clear ht
          gi_wp2_with (first
            | (refine ⟨trivial, fun h => by simp [Fence.wide] at h, (callsIn_wide.2 (HW1.out _ _ HX1.out)).mono ?_⟩; rintro e w2 ⟨rfl, hx2⟩; obtain ⟨k5, hk5⟩ : ∃ q, w2.heap.size = q := ⟨_, rfl⟩; have hx2 := zp hx2; rw [hk5] at hx2; have HX2 := Lib.hid hx2; clear hx2 g2 g6 b2 b3 b4)
            | (with_reducible refine wpListIn_store_pc HX2.out ⟨p0, p1, p2, p3, p4⟩ ?_ ?_; exact ⟨rfl, _, _, rfl, rfl, rfl⟩; intro w4 hx4; have hx5 := hx4.drew; obtain ⟨g2, g6⟩ := HRI.out _ _ _ hx5.p1; have d0 : w4.drew.cell? ⟨k5, 0, none⟩ = some (.int .i64 p0) := (pc5 (p := ⟨p0, p1, p2, p3, p4⟩) hx5).1; have b2 : w4.drew.cell? ⟨q2, 0, none⟩ = some (.pointer (some ⟨q, 0, none⟩)) := cell_one hx5.p4; have HX4 := Lib.hid hx5; clear hx4 hx5))
          have hsd1 : decide (p0 < least) = false := decide_eq_false (by omega)
          refine wpIn_region_planN [(0, true), (1, true), (2, true), (3, true), (4, true), (5, true), (6, true), (7, true), (8, true), (9, true), (10, true), (11, true), (12, true), (13, true), (14, true), (15, true), (16, true), (17, true)]
            [(18, fun w1 => w1.cell? ⟨k5, 0, none⟩ = some (.int .i64 p0) ∧ w1.cell? ⟨q2, 0, none⟩ = some (.pointer (some ⟨q, 0, none⟩)) ∧ w1.cell? ⟨q, 6, none⟩ = some (.int .i64 EP))] (by kernel_rfl) (by kernel_rfl) (by kernel_rfl) ?_ ?_
          · exact ⟨⟨d0, b2, g6⟩, trivial⟩
          simp only [planOps, List.getElem?_cons_zero, List.getElem?_cons_succ]
          iterate 18 (first | (apply plan_skip rfl; try simp only [Act.put, List.setIfInBounds_toArray, List.set_cons_zero, List.set_cons_succ]) | ((apply plan_pure rfl; (intro w1; go_simp; try go_bits); with_reducible rfl); try simp only [Act.put, List.setIfInBounds_toArray, List.set_cons_zero, List.set_cons_succ]) | ((refine' plan_load 0 rfl (by kernel_rfl) rfl ?_ ?_; rotate_left; (intro w1 hw1; go_simp; with_reducible rfl)); try simp only [Act.put, List.setIfInBounds_toArray, List.set_cons_zero, List.set_cons_succ]))
          refine plan_nil ?_
          simp only [onlyN]
          clear d0 b2 g2 g6
          gi_wp2
          simp only [Exit.noGoto]
          refine bodyPost_end (results_none rfl _ _ _) rfl ?_
          exact ⟨⟨_, rfl⟩, .inl ⟨_, HFIN.out, st_end (st_mid HX4.out)⟩⟩
        obtain ⟨k1, rfl⟩ : ∃ k1, k = k1 + 1 := ⟨k - 1, by omega⟩
        have ht := HT.out
        rw [stands_go hlt HREC.out (by rw [← HEP.out]; omega), HN.out, ← HEP.out] at ht
        have hpl : ∃ rest, pre ++ l :: rest = tot := ⟨_, ht⟩
        have hsq1 : sq + 1 ≤ 9223372036854775807 := by
          have := congrArg List.length ht
          rw [List.length_append, List.length_cons] at this
          have := HSQ.out
          omega
        have HT2 := Lib.hid ht
        clear ht
        gi_wp2_with (first
          | (refine ⟨trivial, fun h => by simp [Fence.wide] at h, (callsIn_wide.2 (HW1.out _ _ HX1.out)).mono ?_⟩; rintro e w2 ⟨rfl, hx2⟩; obtain ⟨k5, hk5⟩ : ∃ q, w2.heap.size = q := ⟨_, rfl⟩; have hx2 := zp hx2; rw [hk5] at hx2; have HX2 := Lib.hid hx2; clear hx2 g2 g6 b2 b3 b4)
          | (with_reducible refine wpListIn_store_pc HX2.out ⟨p0, p1, p2, p3, p4⟩ ?_ ?_; exact ⟨rfl, _, _, rfl, rfl, rfl⟩; intro w4 hx4; have hx5 := hx4.drew; obtain ⟨g2, g6⟩ := HRI.out _ _ _ hx5.p1; have d0 : w4.drew.cell? ⟨k5, 0, none⟩ = some (.int .i64 p0) := (pc5 (p := ⟨p0, p1, p2, p3, p4⟩) hx5).1; have b2 : w4.drew.cell? ⟨q2, 0, none⟩ = some (.pointer (some ⟨q, 0, none⟩)) := cell_one hx5.p4; have HX4 := Lib.hid hx5; clear hx4 hx5))
        have hsd1 : decide (p0 < least) = false := decide_eq_false (by omega)
        have hsd2 : decide (EP ≤ p0) = false := decide_eq_false (by omega)
        refine wpIn_region_planN [(0, true), (1, true), (2, true), (3, true), (4, true), (5, true), (6, true), (7, true), (8, true), (9, true), (10, true), (11, true), (12, true), (13, true), (14, true), (15, true), (16, true), (17, true)]
          [(18, fun w1 => w1.cell? ⟨k5, 0, none⟩ = some (.int .i64 p0) ∧ w1.cell? ⟨q2, 0, none⟩ = some (.pointer (some ⟨q, 0, none⟩)) ∧ w1.cell? ⟨q, 6, none⟩ = some (.int .i64 EP))] (by kernel_rfl) (by kernel_rfl) (by kernel_rfl) ?_ ?_
        · exact ⟨⟨d0, b2, g6⟩, trivial⟩
        simp only [planOps, List.getElem?_cons_zero, List.getElem?_cons_succ]
        iterate 18 (first | (apply plan_skip rfl; try simp only [Act.put, List.setIfInBounds_toArray, List.set_cons_zero, List.set_cons_succ]) | ((apply plan_pure rfl; (intro w1; go_simp; try go_bits); with_reducible rfl); try simp only [Act.put, List.setIfInBounds_toArray, List.set_cons_zero, List.set_cons_succ]) | ((refine' plan_load 0 rfl (by kernel_rfl) rfl ?_ ?_; rotate_left; (intro w1 hw1; go_simp; with_reducible rfl)); try simp only [Act.put, List.setIfInBounds_toArray, List.set_cons_zero, List.set_cons_succ]))
        refine plan_nil ?_
        simp only [onlyN]
        clear d0 b2 g2 g6
        have hyy := fun m => HY0.out m pre l w4.drew _ hpl (st_mid HX4.out)
        unfold recV at hyy
        rw [HSS.out, HN.out] at hyy
        obtain ⟨fn, tmps, assign, body, hy, hR⟩ := hyy (n - 1)
        have HY := Lib.hid hy
        have HR2 := Lib.hid hR
        clear hy hyy hR
        gi_wp2
        rw [HY.out]
        go_simp
        refine ⟨fun h => by simp [Fence.wide] at h, HR2.out.mono ?_⟩
        rintro e W' (⟨rfl, h1⟩ | ⟨rfl, h1⟩)
        · have d0 : W'.cell? ⟨k5, 0, none⟩ = some (.int .i64 p0) := (pc5 (p := ⟨p0, p1, p2, p3, p4⟩) h1.p2).1
          have a4 : W'.cell? ⟨q4, 0, none⟩ = some (.int .i64 sq) := by rw [cell_blk h1.p6.at]; rfl
          have z4 : W'.frozen? ⟨q4, 0, none⟩ = false := frozen_blk h1.p6.at 0
          have hnx := st_close (h1.p6.setCell 0 (.int .i64 (sq + 1)))
          have HNX := Lib.hid hnx
          clear hnx h1
          gi_wp2
          refine ⟨⟨B + N, p0, k1, pre ++ [l], sq + 1, by go_num, rfl, by omega, by omega, ?_, by rw [List.length_append, HSQ.out]; simp; omega, HNX.out⟩, by simp [intOf]; omega⟩
          rw [List.append_assoc]
          exact HT2.out
        · gi_wp2
          simp only [Exit.noGoto]
          refine bodyPost_ret (results_none rfl _ _ _) rfl ?_
          exact ⟨⟨_, rfl⟩, .inr ⟨_, trivial, ((h1.p1.tail.p1.tail.p1.tail.p1.tail.p1.tail).mkFact trivial).p1⟩⟩
    · obtain rfl : B = C := by omega
      have ht := HT.out
      rw [stands_stop (E := EP) (k := k) (least := least) (.inl (Nat.le_refl _) : B ≤ B ∨ recAt f B B sq = none ∨ _), List.append_nil] at ht
      have HFIN := Lib.hid ht
      clear ht
      gi_wp2
      simp only [Exit.noGoto]
      refine bodyPost_end (results_none rfl _ _ _) rfl ?_
      exact ⟨⟨_, rfl⟩, .inl ⟨_, HFIN.out, st_end0 HX.out⟩⟩
end Go.Proofs.YtmkpglabiikdeaaGreatDoor
