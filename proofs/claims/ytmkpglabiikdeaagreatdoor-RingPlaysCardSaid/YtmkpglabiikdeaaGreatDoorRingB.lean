/-
  posthouse/ring: places, the piece at a place, walked.
-/
import Derived.Test.YtmkpglabiikdeaaGreatDoorPcG
import Derived.Test.YtmkpglabiikdeaaGreatDoorRingP
import Derived.Test.YtmkpglabiikdeaaGreatDoorDiskZ
import Derived.Test.YtmkpglabiikdeaaGreatDoorRow
namespace Go.Proofs.YtmkpglabiikdeaaGreatDoor
open Go.RowKit PH
attribute [local irreducible] fld pcB pcOfB left

theorem wp_store_pc {E w : World} {L : List HP} {K : Act → World → Prop} {op : Oper} {a : Act} {Q : Exit → Act → World → Prop} {q : Nat} {U : Pc} (S : Sat E w (pt q (.cells U.arr 23) :: L)) (V : Pc)
    (hop : ∃ x y : Operand, op.op = .store 23 x y ∧ a.eval x = .pointer (some ⟨q, 0, none⟩) ∧ a.eval y = .agg #[.int .i64 V.epoch, .int .i64 V.seq, .int .i64 V.part, .int .i64 V.parts, .string V.data])
    (h : ∀ w', Sat E w' (pt q (.cells V.arr 23) :: L) → K (a.put op.dst undef) w') : op.wp Tryz.prog a w K Q :=
  by
  obtain ⟨x, y, ho, hx, hy⟩ := hop
  exact wp_store_mid 23 x y ho q 0 V.arr hx hy (pt_there S rfl) infoPc (pc_one V) (h _ (setCells_all (C := V.arr) S rfl))

theorem zpq {E w : World} {L : List HP} (x : Sat E w L) : Sat E (w.alloc (.cells #[.int .i64 0, .int .i64 0, .int .i64 0, .int .i64 0, .string ⟨#[]⟩] 23)) (pt w.heap.size (.cells noPc.arr 23) :: L) := x.alloc _
/-- A journal: where its region begins, how many places, the next place, how many are taken, the next number, its epoch. -/
structure Rg where
  fro : Nat
  cnt : Nat
  pos : Nat
  used : Nat
  seq : Int
  ep : Int
def Rg.arr (b : Nat) (r : Rg) : Array Value := #[.pointer (some ⟨b, 0, none⟩), .int .i64 r.fro, .int .i64 r.cnt, .int .i64 r.pos, .int .i64 r.used, .int .i64 r.seq, .int .i64 r.ep]
def isRing (q b : Nat) (r : Rg) : HP := pt q (.cells (r.arr b) 102)
theorem ring7 {E w : World} {L : List HP} {q b : Nat} {r : Rg} (x : Sat E w (isRing q b r :: L)) : w.cell? ⟨q, 0, none⟩ = some (.pointer (some ⟨b, 0, none⟩)) ∧ w.cell? ⟨q, 1, none⟩ = some (.int .i64 r.fro) ∧ w.cell? ⟨q, 2, none⟩ = some (.int .i64 r.cnt) ∧ w.cell? ⟨q, 3, none⟩ = some (.int .i64 r.pos) ∧
    w.cell? ⟨q, 4, none⟩ = some (.int .i64 r.used) ∧ w.cell? ⟨q, 5, none⟩ = some (.int .i64 r.seq) ∧ w.cell? ⟨q, 6, none⟩ = some (.int .i64 r.ep) :=
  ⟨cell_blk x.at 0, cell_blk x.at 1, cell_blk x.at 2, cell_blk x.at 3, cell_blk x.at 4, cell_blk x.at 5, cell_blk x.at 6⟩
/-- A journal whose numbers are small, over a disk of so many sectors. -/
structure OkRg (D : Dk) (r : Rg) : Prop where
  c0 : 0 < r.cnt
  c1 : r.fro + r.cnt ≤ D.kept.length
  c2 : D.kept.length ≤ 100000
  p : r.pos < r.cnt
  u : r.used ≤ r.cnt
  s0 : 0 ≤ r.seq
  s1 : r.seq ≤ 4611686018427387904
  e0 : 1 ≤ r.ep
  e1 : r.ep ≤ 4294967295
/-- The sector of a place. -/
def sec (r : Rg) (start i : Nat) : Nat := r.fro + (start + i) % r.cnt

set_option maxRecDepth 100000 in
set_option maxHeartbeats 800000 in
theorem place_ok {E W : World} {L : List HP} {q b : Nat} {r : Rg} (x : Sat E W (isRing q b r :: L)) (hc : 0 < r.cnt) (hc2 : r.fro + r.cnt ≤ 100000) (start i : Nat) (hs : start ≤ 1000000) (hi : i ≤ 1000000) :
    Calls Tryz.prog 65 #[.pointer (some ⟨q, 0, none⟩), .int .i64 start, .int .i64 i] W fun e w' => e = .returned (.int .i64 (sec r start i)) ∧ w' = W.drew := by
  obtain ⟨-, c1, c2, -, -, -, -⟩ := ring7 x.drew
  unfold sec
  obtain ⟨fr, cn, po, us, sq, ep⟩ := r
  dsimp only at *
  have hne : ¬ (cn = 0) := by omega
  obtain ⟨S, hS⟩ : ∃ S : Int, (start : Int) + (i : Int) = S := ⟨_, rfl⟩
  have hS0 : 0 ≤ S := by omega
  have hmod : S.tmod (cn : Int) = (((start + i) % cn : Nat) : Int) := by rw [← hS, Int.tmod_eq_emod_of_nonneg (by omega), Int.natCast_emod]; rfl
  have hml : (start + i) % cn < cn := Nat.mod_lt _ hc
  obtain ⟨M, hM⟩ : ∃ M, (start + i) % cn = M := ⟨_, rfl⟩
  rw [hM] at hmod hml ⊢
  have HX := Lib.hid x
  clear x hM
  go_enter Tryz.func65, Tryz.ntmps65
  go_wp2
  refine wp_region_planL [(0, true), (1, true), (2, true), (3, true), (4, true), (5, true), (6, true), (7, true), (8, true), (9, true), (10, true), (11, true), (12, true), (13, true)]
    [(14, fun w1 => w1.cell? ⟨q, 1, none⟩ = some (.int .i64 fr) ∧ w1.cell? ⟨q, 2, none⟩ = some (.int .i64 cn))] (by kernel_rfl) (by kernel_rfl) (by intro c a d v w h; cases d <;> exact h) ?_ ?_
  · exact ⟨⟨c1, c2⟩, trivial⟩
  simp only [planOps, List.getElem?_cons_zero, List.getElem?_cons_succ]
  iterate 14 (first | ((apply plan_pure rfl; (intro w1; go_simp; try go_bits); with_reducible rfl); try simp only [Act.put, List.setIfInBounds_toArray, List.set_cons_zero, List.set_cons_succ]) | ((refine' plan_load 0 rfl (by kernel_rfl) rfl ?_ ?_; rotate_left; (intro w1 hw1; go_simp; with_reducible rfl)); try simp only [Act.put, List.setIfInBounds_toArray, List.set_cons_zero, List.set_cons_succ]))
  refine plan_nil ?_
  go_wp2
  go_ret
  exact ⟨retI (by omega), rfl⟩

theorem room_ok {E W : World} {L : List HP} {q b : Nat} {r : Rg} (x : Sat E W (isRing q b r :: L)) (h1 : r.used ≤ 1000000) (h2 : r.cnt ≤ 1000000) :
    Calls Tryz.prog 20 #[.pointer (some ⟨q, 0, none⟩)] W fun e w' => e = .returned (.int .i64 ((r.cnt : Int) - r.used)) ∧ w' = W.drew := by
  obtain ⟨-, -, c2, -, c4, -, -⟩ := ring7 x.drew
  obtain ⟨fr, cn, po, us, sq, ep⟩ := r
  dsimp only at *
  have HX := Lib.hid x
  clear x
  go_enter Tryz.func20, Tryz.ntmps20
  go_wp2
  refine wp_region_planL [(0, true), (1, true), (2, true), (3, true), (4, true), (5, true), (6, true), (7, true), (8, true), (9, true)]
    [(10, fun w1 => w1.cell? ⟨q, 2, none⟩ = some (.int .i64 cn) ∧ w1.cell? ⟨q, 4, none⟩ = some (.int .i64 us))] (by kernel_rfl) (by kernel_rfl) (by intro c a d v w h; cases d <;> exact h) ?_ ?_
  · exact ⟨⟨c2, c4⟩, trivial⟩
  simp only [planOps, List.getElem?_cons_zero, List.getElem?_cons_succ]
  iterate 10 (first | ((apply plan_pure rfl; (intro w1; go_simp; try go_bits); with_reducible rfl); try simp only [Act.put, List.setIfInBounds_toArray, List.set_cons_zero, List.set_cons_succ]) | ((refine' plan_load 0 rfl (by kernel_rfl) rfl ?_ ?_; rotate_left; (intro w1 hw1; go_simp; with_reducible rfl)); try simp only [Act.put, List.setIfInBounds_toArray, List.set_cons_zero, List.set_cons_succ]))
  refine plan_nil ?_
  go_wp2
  go_ret
  exact ⟨rfl, rfl⟩
theorem pos_ok {E W : World} {L : List HP} {q b : Nat} {r : Rg} (x : Sat E W (isRing q b r :: L)) :
    Calls Tryz.prog 21 #[.pointer (some ⟨q, 0, none⟩)] W fun e w' => e = .returned (.int .i64 r.pos) ∧ w' = W := by
  obtain ⟨-, -, -, c3, -, -, -⟩ := ring7 x
  clear x
  go_enter Tryz.func21, Tryz.ntmps21
  go_wp2
  go_ret
  exact ⟨rfl, rfl⟩
theorem next_ok {E W : World} {L : List HP} {q b : Nat} {r : Rg} (x : Sat E W (isRing q b r :: L)) :
    Calls Tryz.prog 22 #[.pointer (some ⟨q, 0, none⟩)] W fun e w' => e = .returned (.int .i64 r.seq) ∧ w' = W := by
  obtain ⟨-, -, -, -, -, c5, -⟩ := ring7 x
  clear x
  go_enter Tryz.func22, Tryz.ntmps22
  go_wp2
  go_ret
  exact ⟨rfl, rfl⟩
theorem clear_ok {E W : World} {L : List HP} {q b : Nat} {r : Rg} (x : Sat E W (isRing q b r :: L)) :
    Calls Tryz.prog 23 #[.pointer (some ⟨q, 0, none⟩)] W fun e w' => e = .returned (.tuple #[]) ∧ Sat E w' (isRing q b { r with used := 0 } :: L) := by
  obtain ⟨-, -, -, -, c4, -, -⟩ := ring7 x
  have f4 := frozen_blk x.at 4
  have hx : Sat E _ (isRing q b { r with used := 0 } :: L) := x.setCell 4 (.int .i64 0)
  have HX := Lib.hid hx
  clear x hx
  go_enter Tryz.func23, Tryz.ntmps23
  go_wp2
  refine bodyPost_end (results_none rfl _ _ _) rfl ⟨rfl, HX.out⟩

set_option maxRecDepth 100000 in
set_option maxHeartbeats 1600000 in
theorem at_ok {E W : World} {L : List HP} {q b : Nat} {r : Rg} {D : Dk} (x : Sat E W (isRing q b r :: isDisk b D :: L)) (ok : OkD D) (i : Int) (h0 : thereE D i = 0) (hR : (readV D i).size ≤ 9223372036854775807) :
    Calls Tryz.prog 106 #[.pointer (some ⟨q, 0, none⟩), .int .i64 i] W fun e w' => e = .returned (.tuple #[.agg (getPcV (readV D i)).arr, .bool (getPcB (readV D i))]) ∧ Sat E w' (isRing q b r :: isDisk b D :: L) := by
  have hx1 := zpq x
  obtain ⟨h, hh⟩ : ∃ q, W.heap.size = q := ⟨_, rfl⟩
  rw [hh] at hx1
  obtain ⟨c0, -, -, -, -, -, -⟩ := ring7 hx1.p1
  have hrd : ∀ (W : World) (M : List HP), Sat E W (isDisk b D :: M) → _ := fun W M y => read_yes (W := W) (L := M) y ok i h0
  have hg : ∀ (W : World) (M : List HP), Sat E W M → _ := fun W M y => pcGet_ok (W := W) (L := M) y (readV D i) hR
  obtain ⟨T, hT⟩ : ∃ T, readV D i = T := ⟨_, rfl⟩
  rw [hT] at hrd hg ⊢
  obtain ⟨⟨v0, v1, v2, v3, v4⟩, hv⟩ : ∃ v, getPcV T = v := ⟨_, rfl⟩
  have hcase : (getPcE T = 0 ∧ getPcB T = true) ∨ (getPcE T = 14 ∧ getPcB T = false) := by
    unfold getPcE getPcB
    cases getPc T with
    | none => exact .inr ⟨rfl, rfl⟩
    | some p => exact .inl ⟨rfl, rfl⟩
  rw [hv] at hg ⊢
  have HRD := Lib.hid hrd
  have HX1 := Lib.hid hx1
  have HT := Lib.hid hT
  rcases hcase with ⟨h1, h2⟩ | ⟨h1, h2⟩
  · rw [h1] at hg
    rw [h2]
    have HG := Lib.hid hg
    clear hrd hg hx1 x hT hv h1 h2
    go_enter Tryz.func106, Tryz.ntmps106
    go_wp2_with (first
      | (go_at_call 119; refine (HRD.out _ _ HX1.out.p2).mono ?_; rintro e w2 ⟨rfl, hx2⟩; have HX2 := Lib.hid hx2; clear hx2 c0)
      | (go_at_call 14; refine (HG.out _ _ HX2.out).mono ?_; rintro e w3 ⟨rfl, hx3⟩; obtain ⟨q3, hq3⟩ : ∃ q, w3.heap.size = q := ⟨_, rfl⟩; have hx3 := zp hx3; rw [hq3] at hx3; have HX3 := Lib.hid hx3; clear hx3)
      | (with_reducible refine wpList_store_pc HX3.out ⟨v0, v1, v2, v3, v4⟩ ?_ ?_; exact ⟨rfl, _, _, rfl, rfl, rfl⟩; intro w4 hx4; obtain ⟨d0, d1, d2, d3, d4⟩ := pc5 (p := ⟨v0, v1, v2, v3, v4⟩) hx4; dsimp only at d0 d1 d2 d3 d4; have HX4 := Lib.hid hx4; clear hx4)
      | (with_reducible refine wpList_store_pc HX4.out.p2 ⟨v0, v1, v2, v3, v4⟩ ?_ ?_; exact ⟨rfl, _, _, rfl, rfl, rfl⟩; intro w9 hx9; have HX9 := Lib.hid hx9; clear hx9))
    refine bodyPost_ret (v := .tuple #[.agg (⟨v0, v1, v2, v3, v4⟩ : Pc).arr, .bool true]) ?_ rfl ⟨rfl, HX9.out.tail.tail.p1⟩
    rw [results_cell_tmp rfl]
    simp [asAddr, load_pc HX9.out, Result.andThen]
  · rw [h1] at hg
    rw [h2]
    have HG := Lib.hid hg
    clear hrd hg hx1 x hT hv h1 h2
    go_enter Tryz.func106, Tryz.ntmps106
    go_wp2_with (first
      | (go_at_call 119; refine (HRD.out _ _ HX1.out.p2).mono ?_; rintro e w2 ⟨rfl, hx2⟩; have HX2 := Lib.hid hx2; clear hx2 c0)
      | (go_at_call 14; refine (HG.out _ _ HX2.out).mono ?_; rintro e w3 ⟨rfl, hx3⟩; obtain ⟨q3, hq3⟩ : ∃ q, w3.heap.size = q := ⟨_, rfl⟩; have hx3 := zp hx3; rw [hq3] at hx3; have HX3 := Lib.hid hx3; clear hx3)
      | (with_reducible refine wpList_store_pc HX3.out ⟨v0, v1, v2, v3, v4⟩ ?_ ?_; exact ⟨rfl, _, _, rfl, rfl, rfl⟩; intro w4 hx4; obtain ⟨d0, d1, d2, d3, d4⟩ := pc5 (p := ⟨v0, v1, v2, v3, v4⟩) hx4; dsimp only at d0 d1 d2 d3 d4; have HX4 := Lib.hid hx4; clear hx4)
      | (with_reducible refine wpList_store_pc HX4.out.p2 ⟨v0, v1, v2, v3, v4⟩ ?_ ?_; exact ⟨rfl, _, _, rfl, rfl, rfl⟩; intro w9 hx9; have HX9 := Lib.hid hx9; clear hx9))
    refine bodyPost_ret (v := .tuple #[.agg (⟨v0, v1, v2, v3, v4⟩ : Pc).arr, .bool false]) ?_ rfl ⟨rfl, HX9.out.tail.tail.p1⟩
    rw [results_cell_tmp rfl]
    simp [asAddr, load_pc HX9.out, Result.andThen]
end Go.Proofs.YtmkpglabiikdeaaGreatDoor
/-
  posthouse/ring: the record that begins behind some places, walked.
-/
namespace Go.Proofs.YtmkpglabiikdeaaGreatDoor
open Go.RowKit PH
attribute [local irreducible] fld pcB pcOfB left

/-- The piece at a place, counted from a start on. -/
def pcAt (D : Dk) (r : Rg) (start i : Nat) : Option Pc := getPc (readV D (sec r start i))
theorem getPcB_some {s : ByteArray} : getPcB s = true ↔ ∃ p, getPc s = some p ∧ getPcV s = p := by
  unfold getPcB getPcV
  cases getPc s with
  | none => simp
  | some p => simp
theorem getPcB_none {s : ByteArray} (h : getPcB s = false) : getPc s = none ∧ getPcV s = noPc := by
  unfold getPcB at h
  unfold getPcV
  cases hg : getPc s with
  | none => exact ⟨rfl, rfl⟩
  | some p => rw [hg] at h; cases h
def wholeS (f : Nat → Option Pc) (C b : Nat) (seq : Int) : ByteArray := match recAt f C b seq with | some l => joined l | none => ByteArray.empty
def wholeP (f : Nat → Option Pc) (C b : Nat) (seq : Int) : Pc := match recAt f C b seq with | some l => l.getD 0 noPc | none => noPc
def wholeN (f : Nat → Option Pc) (C b : Nat) (seq : Int) : Nat := match recAt f C b seq with | some l => l.length | none => 0
theorem whole_none {f : Nat → Option Pc} {C b : Nat} {seq : Int} (h : recAt f C b seq = none) : wholeS f C b seq = ByteArray.empty ∧ wholeP f C b seq = noPc ∧ wholeN f C b seq = 0 := by unfold wholeS wholeP wholeN; rw [h]; exact ⟨rfl, rfl, rfl⟩
theorem whole_some {f : Nat → Option Pc} {C b : Nat} {seq : Int} {l : List Pc} (h : recAt f C b seq = some l) : wholeS f C b seq = joined l ∧ wholeP f C b seq = l.getD 0 noPc ∧ wholeN f C b seq = l.length := by unfold wholeS wholeP wholeN; rw [h]; exact ⟨rfl, rfl, rfl⟩
theorem there_sec {D : Dk} {r : Rg} (ha : aliveE D = 0) (hc : 0 < r.cnt) (hc1 : r.fro + r.cnt ≤ D.kept.length) (start i : Nat) : thereE D (sec r start i) = 0 := by
  have : (start + i) % r.cnt < r.cnt := Nat.mod_lt _ hc
  unfold thereE sec
  rw [if_pos ha, if_neg (by omega)]
theorem recAt_first {f : Nat → Option Pc} {C b : Nat} {seq : Int} {p : Pc} (hp : f b = some p) (hs : p.seq = seq) (hc : p.parts ≤ (C : Int) - b) : recAt f C b seq = match run f b p.parts.toNat with | some l => if whole l then some l else none | none => none := by
  unfold recAt
  rw [hp]
  dsimp only
  rw [if_pos ⟨hs, hc⟩]
  cases run f b p.parts.toNat <;> rfl
theorem recAt_no1 {f : Nat → Option Pc} {C b : Nat} {seq : Int} (hp : f b = none) : recAt f C b seq = none := by unfold recAt; rw [hp]
theorem recAt_no2 {f : Nat → Option Pc} {C b : Nat} {seq : Int} {p : Pc} (hp : f b = some p) (h : ¬ (p.seq = seq ∧ p.parts ≤ (C : Int) - b)) : recAt f C b seq = none := by unfold recAt; rw [hp]; dsimp only; rw [if_neg h]

theorem results_tct {fn : Func} {a p u : Tmp} {ty : TypeId} (h : fn.results = #[.tmp a, .cell p ty, .tmp u]) (tmps : Array Value) (P : Program) (w : World) :
    (results fn tmps).run P w =
      ((asAddr (tmps.getD p undef)).run P w).andThen fun x w₁ => ((loadVar ty x).run P w₁).andThen fun v w₂ => .ok (.tuple #[tmps.getD a undef, v, tmps.getD u undef]) w₂ := by
  simp only [results, h]
  simp [Sem.run_bind, Result.andThen]
theorem run_ok {f : Nat → Option Pc} {b k : Nat} {l : List Pc} (h : run f b k = some l) (hf : ∀ i p, f i = some p → okPc p = true) : ∀ p ∈ l, p.data.size ≤ 1000 := fun p hp => by
  obtain ⟨i, hi⟩ := List.getElem?_of_mem hp
  have hl := run_len h
  have := run_get h i (by have := (List.getElem?_eq_some_iff.1 hi).1; omega)
  rw [hi] at this
  have := okPc_data (hf _ _ this)
  omega
theorem pcAt_ok {D : Dk} {r : Rg} {start i : Nat} {p : Pc} (h : pcAt D r start i = some p) : okPc p = true := (getPc_some h).2.2.1

set_option maxRecDepth 100000 in
set_option maxHeartbeats 1600000 in
theorem rwhole_no {E W : World} {L : List HP} {q b : Nat} {r : Rg} {D : Dk} (x : Sat E W (isRing q b r :: isDisk b D :: L)) (ok : OkD D) (ha : aliveE D = 0) (hc : 0 < r.cnt) (hc1 : r.fro + r.cnt ≤ D.kept.length) (hc2 : D.kept.length ≤ 100000)
    (hR : ∀ i, (readV D i).size ≤ 9223372036854775807) (start bh : Nat) (seq : Int) (hst : start ≤ 100000) (hbh : bh ≤ 100000) (hf : getPcB (readV D (sec r start bh)) = false) :
    Calls Tryz.prog 90 #[.pointer (some ⟨q, 0, none⟩), .int .i64 start, .int .i64 bh, .int .i64 seq] W fun e w' =>
      e = .returned (.tuple #[.string (wholeS (pcAt D r start) r.cnt bh seq), .agg (wholeP (pcAt D r start) r.cnt bh seq).arr, .int .i64 (wholeN (pcAt D r start) r.cnt bh seq)]) ∧ Sat E w' (isRing q b r :: isDisk b D :: L) := by
  obtain ⟨hg, hv⟩ := getPcB_none hf
  obtain ⟨e1, e2, e3⟩ := whole_none (recAt_no1 (f := pcAt D r start) (C := r.cnt) (b := bh) (seq := seq) hg)
  rw [e1, e2, e3]
  obtain ⟨⟨p0, p1, p2, p3, p4⟩, hp⟩ : ∃ p, noPc = p := ⟨_, rfl⟩
  have HV := Lib.hid (hv.trans hp)
  have HB := Lib.hid hf
  have hx1 := zpq x
  obtain ⟨h, hh⟩ : ∃ q, W.heap.size = q := ⟨_, rfl⟩
  rw [hh] at hx1
  have hat : ∀ (i : Nat) (W : World) (M : List HP), Sat E W (isRing q b r :: isDisk b D :: M) → _ := fun i W M y => at_ok (W := W) (L := M) y ok (sec r start i) (there_sec ha hc hc1 start i) (hR _)
  have hpl : ∀ (i : Nat) (hi : i ≤ 1000000) (W : World) (M : List HP), Sat E W (isRing q b r :: M) → _ := fun i hi W M y => place_ok (W := W) (L := M) y hc (by omega) start i (by omega) hi
  have h7 : ∀ (W : World) (M : List HP), Sat E W (isRing q b r :: M) → W.cell? ⟨q, 2, none⟩ = some (.int .i64 r.cnt) := fun W M y => (ring7 y).2.2.1
  have HAT := Lib.hid hat
  have HPL := Lib.hid hpl
  have H7 := Lib.hid h7
  have HX1 := Lib.hid hx1
  clear hat hpl h7 hx1 x hR
  clear hg hv hf e1 e2 e3 hp
  go_enter Tryz.func90, Tryz.ntmps90
  go_wp2_with (first
    | (go_at_call 65; refine (HPL.out bh (by omega) _ _ HX1.out.p1).mono ?_; rintro e w1 ⟨rfl, hw1⟩; have hx2 := HX1.out.drew; rw [← hw1] at hx2; clear hw1; have HX2 := Lib.hid hx2; clear hx2)
    | (go_at_call 106; refine (HAT.out bh _ _ HX2.out.p2.p2).mono ?_; rintro e w3 ⟨rfl, hx3⟩; rw [HV.out, HB.out]; obtain ⟨k, hk⟩ : ∃ q, w3.heap.size = q := ⟨_, rfl⟩; have hx3 := zp hx3; rw [hk] at hx3; have HX3 := Lib.hid hx3; clear hx3)
    | (with_reducible refine wpList_store_pc HX3.out ⟨p0, p1, p2, p3, p4⟩ ?_ ?_; exact ⟨rfl, _, _, rfl, rfl, rfl⟩; intro w4 hx4; have hx5 := hx4.drew; obtain ⟨-, d1, -, d3, -⟩ := pc5 (p := ⟨p0, p1, p2, p3, p4⟩) hx5; dsimp only at d1 d3; have g2 := H7.out _ _ hx5.p1; have HX5 := Lib.hid hx5; clear hx4 hx5))
  refine wp_region_planL [(0, true), (1, true), (2, true), (3, true), (4, true), (5, true), (6, true), (7, true), (8, true), (9, true), (10, true), (11, true), (12, true), (13, true), (14, true), (15, true), (16, true), (17, true), (18, true)]
    [(19, fun w1 => w1.cell? ⟨k, 1, none⟩ = some (.int .i64 p1) ∧ w1.cell? ⟨k, 3, none⟩ = some (.int .i64 p3) ∧ w1.cell? ⟨q, 2, none⟩ = some (.int .i64 r.cnt))] (by kernel_rfl) (by kernel_rfl) (by intro c a d v w h; cases d <;> exact h) ?_ ?_
  · exact ⟨⟨d1, d3, g2⟩, trivial⟩
  simp only [planOps, List.getElem?_cons_zero, List.getElem?_cons_succ]
  iterate 19 (first | (apply plan_skip rfl; try simp only [Act.put, List.setIfInBounds_toArray, List.set_cons_zero, List.set_cons_succ]) | ((apply plan_pure rfl; (intro w1; go_simp; try go_bits); with_reducible rfl); try simp only [Act.put, List.setIfInBounds_toArray, List.set_cons_zero, List.set_cons_succ]) | ((refine' plan_load 0 rfl (by kernel_rfl) rfl ?_ ?_; rotate_left; (intro w1 hw1; go_simp; with_reducible rfl)); try simp only [Act.put, List.setIfInBounds_toArray, List.set_cons_zero, List.set_cons_succ]))
  refine plan_nil ?_
  clear d1 d3 g2
  go_wp2_with (first
    | (with_reducible refine wpList_store_pc HX5.out.p3 noPc ?_ ?_; exact ⟨rfl, _, _, rfl, rfl, rfl⟩; intro w9 hx9; have HX9 := Lib.hid hx9; clear hx9))
  refine bodyPost_ret (v := .tuple #[.string ByteArray.empty, .agg noPc.arr, .int .i64 0]) ?_ rfl ⟨rfl, HX9.out.tail.tail⟩
  rw [results_tct rfl]
  simp [asAddr, load_pc HX9.out, Result.andThen]
  rfl

set_option maxRecDepth 100000 in
set_option maxHeartbeats 1600000 in
theorem rwhole_other {E W : World} {L : List HP} {q b : Nat} {r : Rg} {D : Dk} (x : Sat E W (isRing q b r :: isDisk b D :: L)) (ok : OkD D) (ha : aliveE D = 0) (hc : 0 < r.cnt) (hc1 : r.fro + r.cnt ≤ D.kept.length) (hc2 : D.kept.length ≤ 100000)
    (hR : ∀ i, (readV D i).size ≤ 9223372036854775807) (start bh : Nat) (seq : Int) (hst : start ≤ 100000) (hbh : bh ≤ 100000) {p0 p1 p2 p3 : Int} {p4 : ByteArray} (hf : getPc (readV D (sec r start bh)) = some ⟨p0, p1, p2, p3, p4⟩) (hn : ¬ (p1 = seq ∧ p3 ≤ (r.cnt : Int) - bh)) :
    Calls Tryz.prog 90 #[.pointer (some ⟨q, 0, none⟩), .int .i64 start, .int .i64 bh, .int .i64 seq] W fun e w' =>
      e = .returned (.tuple #[.string (wholeS (pcAt D r start) r.cnt bh seq), .agg (wholeP (pcAt D r start) r.cnt bh seq).arr, .int .i64 (wholeN (pcAt D r start) r.cnt bh seq)]) ∧ Sat E w' (isRing q b r :: isDisk b D :: L) := by
  obtain ⟨e1, e2, e3⟩ := whole_none (recAt_no2 (f := pcAt D r start) (C := r.cnt) (b := bh) (seq := seq) hf hn)
  rw [e1, e2, e3]
  obtain ⟨hv, -, hb⟩ := getPc_yes hf
  have HV := Lib.hid hv
  have HB := Lib.hid hb
  have hbd := okPc_bounds (getPc_some hf).2.2.1
  dsimp only at hbd
  have hx1 := zpq x
  obtain ⟨h, hh⟩ : ∃ q, W.heap.size = q := ⟨_, rfl⟩
  rw [hh] at hx1
  have hat : ∀ (i : Nat) (W : World) (M : List HP), Sat E W (isRing q b r :: isDisk b D :: M) → _ := fun i W M y => at_ok (W := W) (L := M) y ok (sec r start i) (there_sec ha hc hc1 start i) (hR _)
  have hpl : ∀ (i : Nat) (hi : i ≤ 1000000) (W : World) (M : List HP), Sat E W (isRing q b r :: M) → _ := fun i hi W M y => place_ok (W := W) (L := M) y hc (by omega) start i (by omega) hi
  have h7 : ∀ (W : World) (M : List HP), Sat E W (isRing q b r :: M) → W.cell? ⟨q, 2, none⟩ = some (.int .i64 r.cnt) := fun W M y => (ring7 y).2.2.1
  have HAT := Lib.hid hat
  have HPL := Lib.hid hpl
  have H7 := Lib.hid h7
  have HX1 := Lib.hid hx1
  clear hat hpl h7 hx1 x hR
  clear hv hb hf e1 e2 e3
  by_cases hs : p1 = seq
  · have hlt : (r.cnt : Int) - bh < p3 := by
      by_cases h : (r.cnt : Int) - bh < p3
      · exact h
      · exact absurd ⟨hs, by omega⟩ hn
    clear hn
    subst hs
    go_enter Tryz.func90, Tryz.ntmps90
    go_wp2_with (first
      | (go_at_call 65; refine (HPL.out bh (by omega) _ _ HX1.out.p1).mono ?_; rintro e w1 ⟨rfl, hw1⟩; have hx2 := HX1.out.drew; rw [← hw1] at hx2; clear hw1; have HX2 := Lib.hid hx2; clear hx2)
      | (go_at_call 106; refine (HAT.out bh _ _ HX2.out.p2.p2).mono ?_; rintro e w3 ⟨rfl, hx3⟩; rw [HV.out, HB.out]; obtain ⟨k, hk⟩ : ∃ q, w3.heap.size = q := ⟨_, rfl⟩; have hx3 := zp hx3; rw [hk] at hx3; have HX3 := Lib.hid hx3; clear hx3)
      | (with_reducible refine wpList_store_pc HX3.out ⟨p0, p1, p2, p3, p4⟩ ?_ ?_; exact ⟨rfl, _, _, rfl, rfl, rfl⟩; intro w4 hx4; have hx5 := hx4.drew; obtain ⟨-, d1, -, d3, -⟩ := pc5 (p := ⟨p0, p1, p2, p3, p4⟩) hx5; dsimp only at d1 d3; have g2 := H7.out _ _ hx5.p1; have HX5 := Lib.hid hx5; clear hx4 hx5))
    refine wp_region_planL [(0, true), (1, true), (2, true), (3, true), (4, true), (5, true), (6, true), (7, true), (8, true), (9, true), (10, true), (11, true), (12, true), (13, true), (14, true), (15, true), (16, true), (17, true), (18, true)]
      [(19, fun w1 => w1.cell? ⟨k, 1, none⟩ = some (.int .i64 p1) ∧ w1.cell? ⟨k, 3, none⟩ = some (.int .i64 p3) ∧ w1.cell? ⟨q, 2, none⟩ = some (.int .i64 r.cnt))] (by kernel_rfl) (by kernel_rfl) (by intro c a d v w h; cases d <;> exact h) ?_ ?_
    · exact ⟨⟨d1, d3, g2⟩, trivial⟩
    simp only [planOps, List.getElem?_cons_zero, List.getElem?_cons_succ]
    iterate 19 (first | (apply plan_skip rfl; try simp only [Act.put, List.setIfInBounds_toArray, List.set_cons_zero, List.set_cons_succ]) | ((apply plan_pure rfl; (intro w1; go_simp; try go_bits); with_reducible rfl); try simp only [Act.put, List.setIfInBounds_toArray, List.set_cons_zero, List.set_cons_succ]) | ((refine' plan_load 0 rfl (by kernel_rfl) rfl ?_ ?_; rotate_left; (intro w1 hw1; go_simp; with_reducible rfl)); try simp only [Act.put, List.setIfInBounds_toArray, List.set_cons_zero, List.set_cons_succ]))
    refine plan_nil ?_
    clear d1 d3 g2
    go_wp2_with (first
      | (with_reducible refine wpList_store_pc HX5.out.p3 noPc ?_ ?_; exact ⟨rfl, _, _, rfl, rfl, rfl⟩; intro w9 hx9; have HX9 := Lib.hid hx9; clear hx9))
    refine bodyPost_ret (v := .tuple #[.string ByteArray.empty, .agg noPc.arr, .int .i64 0]) ?_ rfl ⟨rfl, HX9.out.tail.tail⟩
    rw [results_tct rfl]
    simp [asAddr, load_pc HX9.out, Result.andThen]
    rfl
  · have hne : (p1 != seq) = true := by simp [hs]
    clear hn
    go_enter Tryz.func90, Tryz.ntmps90
    go_wp2_with (first
      | (go_at_call 65; refine (HPL.out bh (by omega) _ _ HX1.out.p1).mono ?_; rintro e w1 ⟨rfl, hw1⟩; have hx2 := HX1.out.drew; rw [← hw1] at hx2; clear hw1; have HX2 := Lib.hid hx2; clear hx2)
      | (go_at_call 106; refine (HAT.out bh _ _ HX2.out.p2.p2).mono ?_; rintro e w3 ⟨rfl, hx3⟩; rw [HV.out, HB.out]; obtain ⟨k, hk⟩ : ∃ q, w3.heap.size = q := ⟨_, rfl⟩; have hx3 := zp hx3; rw [hk] at hx3; have HX3 := Lib.hid hx3; clear hx3)
      | (with_reducible refine wpList_store_pc HX3.out ⟨p0, p1, p2, p3, p4⟩ ?_ ?_; exact ⟨rfl, _, _, rfl, rfl, rfl⟩; intro w4 hx4; have hx5 := hx4.drew; obtain ⟨-, d1, -, d3, -⟩ := pc5 (p := ⟨p0, p1, p2, p3, p4⟩) hx5; dsimp only at d1 d3; have g2 := H7.out _ _ hx5.p1; have HX5 := Lib.hid hx5; clear hx4 hx5))
    refine wp_region_planL [(0, true), (1, true), (2, true), (3, true), (4, true), (5, true), (6, true), (7, true), (8, true), (9, true), (10, true), (11, true), (12, true), (13, true), (14, true), (15, true), (16, true), (17, true), (18, true)]
      [(19, fun w1 => w1.cell? ⟨k, 1, none⟩ = some (.int .i64 p1) ∧ w1.cell? ⟨k, 3, none⟩ = some (.int .i64 p3) ∧ w1.cell? ⟨q, 2, none⟩ = some (.int .i64 r.cnt))] (by kernel_rfl) (by kernel_rfl) (by intro c a d v w h; cases d <;> exact h) ?_ ?_
    · exact ⟨⟨d1, d3, g2⟩, trivial⟩
    simp only [planOps, List.getElem?_cons_zero, List.getElem?_cons_succ]
    iterate 19 (first | (apply plan_skip rfl; try simp only [Act.put, List.setIfInBounds_toArray, List.set_cons_zero, List.set_cons_succ]) | ((apply plan_pure rfl; (intro w1; go_simp; try go_bits); with_reducible rfl); try simp only [Act.put, List.setIfInBounds_toArray, List.set_cons_zero, List.set_cons_succ]) | ((refine' plan_load 0 rfl (by kernel_rfl) rfl ?_ ?_; rotate_left; (intro w1 hw1; go_simp; with_reducible rfl)); try simp only [Act.put, List.setIfInBounds_toArray, List.set_cons_zero, List.set_cons_succ]))
    refine plan_nil ?_
    clear d1 d3 g2
    go_wp2_with (first
      | (with_reducible refine wpList_store_pc HX5.out.p3 noPc ?_ ?_; exact ⟨rfl, _, _, rfl, rfl, rfl⟩; intro w9 hx9; have HX9 := Lib.hid hx9; clear hx9))
    refine bodyPost_ret (v := .tuple #[.string ByteArray.empty, .agg noPc.arr, .int .i64 0]) ?_ rfl ⟨rfl, HX9.out.tail.tail⟩
    rw [results_tct rfl]
    simp [asAddr, load_pc HX9.out, Result.andThen]
    rfl

set_option maxRecDepth 100000 in
set_option maxHeartbeats 3200000 in
theorem rwhole_run {E W : World} {L : List HP} {q b : Nat} {r : Rg} {D : Dk} (x : Sat E W (isRing q b r :: isDisk b D :: L)) (ok : OkD D) (ha : aliveE D = 0) (hc : 0 < r.cnt) (hc1 : r.fro + r.cnt ≤ D.kept.length) (hc2 : D.kept.length ≤ 100000)
    (hR : ∀ i, (readV D i).size ≤ 9223372036854775807) (start bh : Nat) (seq : Int) (hst : start ≤ 100000) (hbh : bh ≤ 100000) {p0 p1 p2 : Int} {n : Nat} {p4 : ByteArray} (hf : getPc (readV D (sec r start bh)) = some ⟨p0, p1, p2, n, p4⟩) (hs : p1 = seq) (hle : (n : Int) ≤ (r.cnt : Int) - bh) :
    Calls Tryz.prog 90 #[.pointer (some ⟨q, 0, none⟩), .int .i64 start, .int .i64 bh, .int .i64 seq] W fun e w' =>
      e = .returned (.tuple #[.string (wholeS (pcAt D r start) r.cnt bh seq), .agg (wholeP (pcAt D r start) r.cnt bh seq).arr, .int .i64 (wholeN (pcAt D r start) r.cnt bh seq)]) ∧ Sat E w' (isRing q b r :: isDisk b D :: L) := by
  subst hs
  obtain ⟨hv, -, hb⟩ := getPc_yes hf
  have HV := Lib.hid hv
  have HB := Lib.hid hb
  have hbd := okPc_bounds (getPc_some hf).2.2.1
  dsimp only at hbd
  have hrec := recAt_first (f := pcAt D r start) (C := r.cnt) (b := bh) (seq := p1) (p := ⟨p0, p1, p2, n, p4⟩) hf rfl hle
  dsimp only at hrec
  rw [Int.toNat_natCast] at hrec
  have HREC := Lib.hid hrec
  have HF : Hid (pcAt D r start bh = some ⟨p0, p1, p2, n, p4⟩) := Lib.hid hf
  have hn1 : 1 ≤ n := by omega
  have hn64 : n ≤ 64 := by omega
  obtain ⟨f, hfd⟩ : ∃ f, pcAt D r start = f := ⟨_, rfl⟩
  have hof : ∀ i p, f i = some p → okPc p = true := fun i p h => by rw [← hfd] at h; exact pcAt_ok h
  have hfg : ∀ i, f i = getPc (readV D (sec r start i)) := fun i => by rw [← hfd]; rfl
  rw [hfd] at HREC HF ⊢
  have HOF := Lib.hid hof
  have HFG := Lib.hid hfg
  have hx1 := zpq x
  obtain ⟨h, hh⟩ : ∃ q, W.heap.size = q := ⟨_, rfl⟩
  rw [hh] at hx1
  have hat : ∀ (i : Nat) (W : World) (M : List HP), Sat E W (isRing q b r :: isDisk b D :: M) → _ := fun i W M y => at_ok (W := W) (L := M) y ok (sec r start i) (there_sec ha hc hc1 start i) (hR _)
  have hpl : ∀ (i : Nat) (hi : i ≤ 1000000) (W : World) (M : List HP), Sat E W (isRing q b r :: M) → _ := fun i hi W M y => place_ok (W := W) (L := M) y hc (by omega) start i (by omega) hi
  have h7 : ∀ (W : World) (M : List HP), Sat E W (isRing q b r :: M) → W.cell? ⟨q, 2, none⟩ = some (.int .i64 r.cnt) := fun W M y => (ring7 y).2.2.1
  have HAT := Lib.hid hat
  have HPL := Lib.hid hpl
  have H7 := Lib.hid h7
  have HX1 := Lib.hid hx1
  clear hat hpl h7 hx1 x hR
  clear hv hb hf hrec hbd hof hfg hfd
  have hlt0 : ¬ (r.cnt : Int) - bh < n := by omega
  go_enter Tryz.func90, Tryz.ntmps90
  go_wp2_with (first
    | (go_at_call 65; refine (HPL.out bh (by omega) _ _ HX1.out.p1).mono ?_; rintro e w1 ⟨rfl, hw1⟩; have hx2 := HX1.out.drew; rw [← hw1] at hx2; clear hw1; have HX2 := Lib.hid hx2; clear hx2)
    | (go_at_call 106; refine (HAT.out bh _ _ HX2.out.p2.p2).mono ?_; rintro e w3 ⟨rfl, hx3⟩; rw [HV.out, HB.out]; obtain ⟨k, hk⟩ : ∃ q, w3.heap.size = q := ⟨_, rfl⟩; have hx3 := zp hx3; rw [hk] at hx3; have HX3 := Lib.hid hx3; clear hx3)
    | (with_reducible refine wpList_store_pc HX3.out ⟨p0, p1, p2, n, p4⟩ ?_ ?_; exact ⟨rfl, _, _, rfl, rfl, rfl⟩; intro w4 hx4; have hx5 := hx4.drew; obtain ⟨-, d1, -, d3, -⟩ := pc5 (p := ⟨p0, p1, p2, n, p4⟩) hx5; dsimp only at d1 d3; have g2 := H7.out _ _ hx5.p1; have HX5 := Lib.hid hx5; clear hx4 hx5))
  refine wp_region_planL [(0, true), (1, true), (2, true), (3, true), (4, true), (5, true), (6, true), (7, true), (8, true), (9, true), (10, true), (11, true), (12, true), (13, true), (14, true), (15, true), (16, true), (17, true), (18, true)]
    [(19, fun w1 => w1.cell? ⟨k, 1, none⟩ = some (.int .i64 p1) ∧ w1.cell? ⟨k, 3, none⟩ = some (.int .i64 n) ∧ w1.cell? ⟨q, 2, none⟩ = some (.int .i64 r.cnt))] (by kernel_rfl) (by kernel_rfl) (by intro c a d v w h; cases d <;> exact h) ?_ ?_
  · exact ⟨⟨d1, d3, g2⟩, trivial⟩
  simp only [planOps, List.getElem?_cons_zero, List.getElem?_cons_succ]
  iterate 19 (first | (apply plan_skip rfl; try simp only [Act.put, List.setIfInBounds_toArray, List.set_cons_zero, List.set_cons_succ]) | ((apply plan_pure rfl; (intro w1; go_simp; try go_bits); with_reducible rfl); try simp only [Act.put, List.setIfInBounds_toArray, List.set_cons_zero, List.set_cons_succ]) | ((refine' plan_load 0 rfl (by kernel_rfl) rfl ?_ ?_; rotate_left; (intro w1 hw1; go_simp; with_reducible rfl)); try simp only [Act.put, List.setIfInBounds_toArray, List.set_cons_zero, List.set_cons_succ]))
  refine plan_nil ?_
  clear d1 d3 g2
  have e3 : w4.drew.cell? ⟨k, 3, none⟩ = some (.int .i64 n) := (pc5 (p := ⟨p0, p1, p2, n, p4⟩) HX5.out).2.2.2.1
  go_wp2
  go_loopw [13, 50] (fun v i wr => ∃ (j : Nat) (l : List Pc), j ≤ n ∧ i = .int .i64 j ∧ run f bh j = some l ∧ Sat E wr (row 23 5 v j (pcs l) :: pt k (.cells (⟨p0, p1, p2, n, p4⟩ : Pc).arr 23) :: isRing q b r :: isDisk b D :: pt h (.cells noPc.arr 23) :: L)) (fun _ i _ => n - (intOf i).toNat)
  case atStart => exact ⟨0, [], by omega, rfl, rfl, HX5.out.rowNil _ _⟩
  case round =>
    clear e3
    obtain ⟨j, l, hj, rfl, hrun, hx⟩ := hrel
    have HRUN := Lib.hid hrun
    have HXR := Lib.hid hx
    have hll := run_len hrun
    clear hx hrun
    by_cases hlt : j < n
    · obtain ⟨m, hm⟩ : ∃ m, bh + j = m := ⟨_, rfl⟩
      have hmi : (bh : Int) + (j : Int) = (m : Int) := by omega
      cases hg : f m with
      | none =>
        have hno : recAt f r.cnt bh p1 = none := by rw [HREC.out, run_none (f := f) (b := bh) (k := j) (by rw [hm]; exact hg) n hlt]
        obtain ⟨e1, e2, e3⟩ := whole_none hno
        have E1 := Lib.hid e1
        have E2 := Lib.hid e2
        have E3 := Lib.hid e3
        rw [HFG.out] at hg
        obtain ⟨hv2, -, hb2⟩ := getPc_no hg
        obtain ⟨⟨s0, s1, s2, s3, s4⟩, hp⟩ : ∃ p, noPc = p := ⟨_, rfl⟩
        have HV2 := Lib.hid (hv2.trans hp)
        have HB2 := Lib.hid hb2
        clear hv2 hb2 hg hno e1 e2 e3 hp
        go_wp2_with (first
          | (go_at_call 65; refine (HPL.out m (by omega) _ _ HXR.out.p2).mono ?_; rintro e w1 ⟨rfl, hw1⟩; have hx2 := HXR.out.drew; rw [← hw1] at hx2; clear hw1; have HX2 := Lib.hid hx2; clear hx2)
          | (go_at_call 106; refine (HAT.out m _ _ HX2.out.p3.p3).mono ?_; rintro e w3 ⟨rfl, hx3⟩; rw [HV2.out, HB2.out]; obtain ⟨k2, hk2⟩ : ∃ q, w3.heap.size = q := ⟨_, rfl⟩; have hx3 := zp hx3; rw [hk2] at hx3; have HX3 := Lib.hid hx3; clear hx3)
          | (with_reducible refine wpList_store_pc HX3.out ⟨s0, s1, s2, s3, s4⟩ ?_ ?_; exact ⟨rfl, _, _, rfl, rfl, rfl⟩; intro w4 hx4; obtain ⟨d0, d1, d2, d3, d4⟩ := pc5 (p := ⟨s0, s1, s2, s3, s4⟩) hx4; dsimp only at d0 d1 d2 d3 d4; have HX4 := Lib.hid hx4; clear hx4)
          | (with_reducible refine wpList_store_pc HX4.out.p5 noPc ?_ ?_; exact ⟨rfl, _, _, rfl, rfl, rfl⟩; intro w9 hx9; have HX9 := Lib.hid hx9; clear hx9))
        refine bodyPost_ret (v := .tuple #[.string ByteArray.empty, .agg noPc.arr, .int .i64 0]) ?_ rfl ⟨by rw [E1.out, E2.out, E3.out]; rfl, HX9.out.tail.tail.p2.tail.p2.tail⟩
        rw [results_tct rfl]
        simp [asAddr, load_pc HX9.out, Result.andThen]
        rfl
      | some s =>
        have hgs := hg
        rw [HFG.out] at hg
        obtain ⟨hv2, -, hb2⟩ := getPc_yes hg
        have hnext := run_succ HRUN.out (p := s) (by rw [hm]; exact hgs)
        obtain ⟨s0, s1, s2, s3, s4⟩ := s
        have HV2 := Lib.hid hv2
        have HB2 := Lib.hid hb2
        have HNX := Lib.hid hnext
        clear hv2 hb2 hg hgs hnext
        go_wp2_with (first
          | (go_at_call 65; refine (HPL.out m (by omega) _ _ HXR.out.p2).mono ?_; rintro e w1 ⟨rfl, hw1⟩; have hx2 := HXR.out.drew; rw [← hw1] at hx2; clear hw1; have HX2 := Lib.hid hx2; clear hx2)
          | (go_at_call 106; refine (HAT.out m _ _ HX2.out.p3.p3).mono ?_; rintro e w3 ⟨rfl, hx3⟩; rw [HV2.out, HB2.out]; obtain ⟨k2, hk2⟩ : ∃ q, w3.heap.size = q := ⟨_, rfl⟩; have hx3 := zp hx3; rw [hk2] at hx3; have HX3 := Lib.hid hx3; clear hx3)
          | (with_reducible refine wpList_store_pc HX3.out ⟨s0, s1, s2, s3, s4⟩ ?_ ?_; exact ⟨rfl, _, _, rfl, rfl, rfl⟩; intro w4 hx4; obtain ⟨d0, d1, d2, d3, d4⟩ := pc5 (p := ⟨s0, s1, s2, s3, s4⟩) hx4; dsimp only at d0 d1 d2 d3 d4; have HX4 := Lib.hid hx4; clear hx4)
          | (at_builtin; refine wpList_app1 rfl _ _ 25 rfl HX4.out.p3 48 (.agg #[.int .i64 0, .int .i64 0, .int .i64 0, .int .i64 0, .string ByteArray.empty]) (by kernel_rfl) Tryz.underlying25 rfl rfl [.int .i64 s0, .int .i64 s1, .int .i64 s2, .int .i64 s3, .string s4] rfl rfl (by simp [Value.oneCell']) (by omega) (by omega) ?_; intro v' w5 hs5; have HX5b := Lib.hid hs5; clear hs5))
        refine ⟨⟨j + 1, _, by omega, by go_num, HNX.out, ?_⟩, by simp [intOf]; omega⟩
        have hh5 := HX5b.out
        rw [show pcs l ++ [Value.int .i64 s0, .int .i64 s1, .int .i64 s2, .int .i64 s3, .string s4] = pcs (l ++ [⟨s0, s1, s2, s3, s4⟩]) from by simp [pcs, Pc.cells]] at hh5
        exact hh5.p1.tail.p3.p1
    · obtain rfl : j = n := by omega
      obtain ⟨g, cap, rfl, hcap, -, hgl, hsee⟩ := HXR.out.rowSees (by omega)
      have hjn := join_ok (w := wr) (a := some ⟨g, 0, none⟩) (c := cap) (l := l) (fun jj u hu => ⟨g, 0, rfl, hsee jj u hu⟩) (by omega) (run_ok HRUN.out HOF.out)
      rw [hll] at hjn
      have hr2 := HREC.out
      rw [HRUN.out] at hr2
      dsimp only at hr2
      cases hw : whole l with
      | false =>
        rw [hw] at hr2
        obtain ⟨e1, e2, e3⟩ := whole_none hr2
        have E1 := Lib.hid e1
        have E2 := Lib.hid e2
        have E3 := Lib.hid e3
        have hje : joinErr l = 14 := by unfold joinErr; rw [hw]; rfl
        rw [hje] at hjn
        have HJ := Lib.hid hjn
        clear hr2 e1 e2 e3 hje hjn hsee hw
        go_wp2_with (first
          | (go_at_call 107; refine HJ.out.mono ?_; rintro e w3 ⟨rfl, hb3⟩; have HX3 := Lib.hid (HXR.out.ofBelow hb3); clear hb3)
          | (with_reducible refine wpList_store_pc HX3.out.p4 noPc ?_ ?_; exact ⟨rfl, _, _, rfl, rfl, rfl⟩; intro w9 hx9; have HX9 := Lib.hid hx9; clear hx9))
        refine bodyPost_ret (v := .tuple #[.string ByteArray.empty, .agg noPc.arr, .int .i64 0]) ?_ rfl ⟨by rw [E1.out, E2.out, E3.out]; rfl, HX9.out.tail.tail.tail⟩
        rw [results_tct rfl]
        simp [asAddr, load_pc HX9.out, Result.andThen]
        rfl
      | true =>
        rw [hw] at hr2
        obtain ⟨e1, e2, e3⟩ := whole_some hr2
        have hp0 : l.getD 0 noPc = ⟨p0, p1, p2, j, p4⟩ := by
          have := run_get HRUN.out 0 (by omega)
          rw [Nat.add_zero, HF.out] at this
          rw [List.getD_eq_getElem?_getD, ← this]; rfl
        rw [hp0] at e2
        rw [hll] at e3
        have hje : joinErr l = 0 := by unfold joinErr; rw [hw]; rfl
        rw [hje] at hjn
        obtain ⟨J, hJ⟩ : ∃ J, joined l = J := ⟨_, rfl⟩
        rw [hJ] at hjn e1
        have E1 := Lib.hid e1
        have E2 := Lib.hid e2
        have E3 := Lib.hid e3
        have HJ := Lib.hid hjn
        clear hr2 e1 e2 e3 hje hjn hsee hw hp0 hJ
        go_wp2_with (first
          | (go_at_call 107; refine HJ.out.mono ?_; rintro e w3 ⟨rfl, hb3⟩; have hx3 := (HXR.out.ofBelow hb3).drew; obtain ⟨d0, d1, d2, d3, d4⟩ := pc5 (p := ⟨p0, p1, p2, j, p4⟩) hx3.p1; dsimp only at d0 d1 d2 d3 d4; have HX3 := Lib.hid hx3; clear hb3 hx3))
        refine wp_region_planL [(0, true), (1, true), (2, true), (3, true), (4, true), (5, false), (6, true)]
          [(7, fun w1 => w1.cell? ⟨k, 0, none⟩ = some (.int .i64 p0) ∧ w1.cell? ⟨k, 1, none⟩ = some (.int .i64 p1) ∧ w1.cell? ⟨k, 2, none⟩ = some (.int .i64 p2) ∧ w1.cell? ⟨k, 3, none⟩ = some (.int .i64 j) ∧ w1.cell? ⟨k, 4, none⟩ = some (.string p4))] (by kernel_rfl) (by kernel_rfl) (by intro c a d v w h; cases d <;> exact h) ?_ ?_
        · exact ⟨⟨d0, d1, d2, d3, d4⟩, trivial⟩
        simp only [planOps, List.getElem?_cons_zero, List.getElem?_cons_succ]
        iterate 5 (first | ((apply plan_pure rfl; (intro w1; go_simp; try go_bits); with_reducible rfl); try simp only [Act.put, List.setIfInBounds_toArray, List.set_cons_zero, List.set_cons_succ]) | ((refine' plan_load 0 rfl (by kernel_rfl) rfl ?_ ?_; rotate_left; (intro w1 hw1; go_simp; with_reducible rfl)); try simp only [Act.put, List.setIfInBounds_toArray, List.set_cons_zero, List.set_cons_succ]))
        refine plan_loud rfl (fun K hK => ?_)
        refine wp_store_pc HX3.out.p4 ⟨p0, p1, p2, j, p4⟩ ⟨_, _, rfl, rfl, rfl⟩ ?_
        intro w5 hx5
        have HX9 := Lib.hid hx5
        refine hK _ _ ⟨pc5 (p := ⟨p0, p1, p2, j, p4⟩) hx5.p2, trivial⟩ ?_
        clear hK K hx5
        iterate 1 (first | ((apply plan_pure rfl; (intro w1; go_simp; try go_bits); with_reducible rfl); try simp only [Act.put, List.setIfInBounds_toArray, List.set_cons_zero, List.set_cons_succ]) | ((refine' plan_load 0 rfl (by kernel_rfl) rfl ?_ ?_; rotate_left; (intro w1 hw1; go_simp; with_reducible rfl)); try simp only [Act.put, List.setIfInBounds_toArray, List.set_cons_zero, List.set_cons_succ]))
        refine plan_nil ?_
        go_wp2
        refine bodyPost_ret (v := .tuple #[.string J, .agg (⟨p0, p1, p2, j, p4⟩ : Pc).arr, .int .i64 j]) ?_ rfl ⟨by rw [E1.out, E2.out, E3.out], HX9.out.tail.tail.tail⟩
        rw [results_tct rfl]
        first | rfl | simp [asAddr, load_pc HX9.out, Result.andThen]

theorem rwhole_ok {E W : World} {L : List HP} {q b : Nat} {r : Rg} {D : Dk} (x : Sat E W (isRing q b r :: isDisk b D :: L)) (ok : OkD D) (ha : aliveE D = 0) (hc : 0 < r.cnt) (hc1 : r.fro + r.cnt ≤ D.kept.length) (hc2 : D.kept.length ≤ 100000)
    (hR : ∀ i, (readV D i).size ≤ 9223372036854775807) (start bh : Nat) (seq : Int) (hst : start ≤ 100000) (hbh : bh ≤ 100000) :
    Calls Tryz.prog 90 #[.pointer (some ⟨q, 0, none⟩), .int .i64 start, .int .i64 bh, .int .i64 seq] W fun e w' =>
      e = .returned (.tuple #[.string (wholeS (pcAt D r start) r.cnt bh seq), .agg (wholeP (pcAt D r start) r.cnt bh seq).arr, .int .i64 (wholeN (pcAt D r start) r.cnt bh seq)]) ∧ Sat E w' (isRing q b r :: isDisk b D :: L) := by
  cases hf : getPc (readV D (sec r start bh)) with
  | none => exact rwhole_no x ok ha hc hc1 hc2 hR start bh seq hst hbh (getPc_no hf).2.2
  | some p =>
    obtain ⟨p0, p1, p2, p3, p4⟩ := p
    have hbd := okPc_bounds (getPc_some hf).2.2.1
    dsimp only at hbd
    obtain ⟨n, rfl⟩ : ∃ n : Nat, p3 = n := ⟨p3.toNat, by omega⟩
    by_cases h : p1 = seq ∧ (n : Int) ≤ (r.cnt : Int) - bh
    · exact rwhole_run x ok ha hc hc1 hc2 hR start bh seq hst hbh hf h.1 h.2
    · exact rwhole_other x ok ha hc hc1 hc2 hR start bh seq hst hbh hf h
end Go.Proofs.YtmkpglabiikdeaaGreatDoor
