/-
  posthouse/ring: Append, walked.
-/
import Derived.Test.YtmkpglabiikdeaaGreatDoorRingB
import Derived.Test.YtmkpglabiikdeaaGreatDoorRunP
import Derived.Test.YtmkpglabiikdeaaGreatDoorCutS
import Derived.Test.YtmkpglabiikdeaaGreatDoorLaws11
namespace Go.Proofs.YtmkpglabiikdeaaGreatDoor
open Go.RowKit PH
attribute [local irreducible] fld pcB pcOfB left

/-- A disk that lives, without a fuse. -/
structure Fine (n : Nat) (D : Dk) (k : Nat) : Prop where
  run : RunP n D k
  dead : D.dead = false
  fuse : D.fuse = -1
theorem Fine.alive {n k : Nat} {D : Dk} (f : Fine n D k) (hn : 1 ≤ n) : aliveE D = 0 := by
  unfold aliveE
  rw [f.run.made hn, f.dead]
  rfl
theorem Fine.there {n k : Nat} {D : Dk} (f : Fine n D k) (hn : 1 ≤ n) {i : Nat} (hi : i < n) : thereE D i = 0 := by
  unfold thereE
  have := f.run.len
  rw [if_pos (f.alive hn), if_neg (by omega)]
theorem Fine.writeE {n k : Nat} {D : Dk} (f : Fine n D k) (hn : 1 ≤ n) {i : Nat} (hi : i < n) {s : ByteArray} (hs : s.size ≤ 128) : writeE D i s = 0 := by
  unfold Go.Proofs.YtmkpglabiikdeaaGreatDoor.writeE burnE
  rw [if_pos (f.there hn hi), if_neg (by omega), if_neg (by rw [f.fuse]; omega)]
theorem Fine.writeD {n k : Nat} {D : Dk} (f : Fine n D k) (hn : 1 ≤ n) {i : Nat} (hi : i < n) {s : ByteArray} (hs : s.size ≤ 128) : writeD D i s = { D with writes := D.writes + 1, wait := D.wait ++ [(pad s, (i : Int))] } := by
  unfold Go.Proofs.YtmkpglabiikdeaaGreatDoor.writeD
  rw [if_pos ⟨f.there hn hi, by omega⟩, if_neg (by rw [f.fuse]; omega)]
  unfold wroteD burnD
  rw [if_neg (by rw [f.fuse]; omega), f.fuse]
  dsimp only
  cases D
  simp only [Dk.mk.injEq, true_and, and_true]
  have := f.fuse
  dsimp only at this
  omega
theorem Fine.write {n k : Nat} {D : Dk} (f : Fine n D k) (hk : k ≤ 100000) (hn : 1 ≤ n) {i : Nat} (hi : i < n) {s : ByteArray} (hs : s.size ≤ 128) : Fine n (Go.Proofs.YtmkpglabiikdeaaGreatDoor.writeD D i s) (k + 1) := by
  refine ⟨(f.run.write hk i s).1, ?_, ?_⟩
  · rw [f.writeD hn hi hs]; exact f.dead
  · rw [f.writeD hn hi hs]; exact f.fuse
/-- The disk behind the first k pieces of a record that is appended. -/
def wroteR (D : Dk) (r : Rg) (l : List Pc) : Nat → Dk
  | 0 => D
  | k + 1 => match l[k]? with
    | some p => writeD (wroteR D r l k) (sec r r.pos k) (pcB p)
    | none => wroteR D r l k
theorem wroteR_succ {D : Dk} {r : Rg} {l : List Pc} {k : Nat} {p : Pc} (h : l[k]? = some p) : wroteR D r l (k + 1) = writeD (wroteR D r l k) (sec r r.pos k) (pcB p) := by
  conv => lhs; unfold wroteR
  rw [h]
theorem sec_lt {r : Rg} (hc : 0 < r.cnt) (start i : Nat) : sec r start i < r.fro + r.cnt := by
  have := Nat.mod_lt (start + i) hc
  unfold sec
  omega
theorem Fine.wrote {n k0 : Nat} {D : Dk} (f : Fine n D k0) (hk0 : k0 ≤ 90000) {r : Rg} (hc : 0 < r.cnt) (hc1 : r.fro + r.cnt ≤ n) {l : List Pc} (hl : ∀ p ∈ l, okPc p = true) : ∀ k, k ≤ l.length → k ≤ 1000 → Fine n (wroteR D r l k) (k0 + k)
  | 0, _, _ => f
  | k + 1, h, h2 => by
    have ih := f.wrote hk0 hc hc1 hl k (by omega) (by omega)
    have e : l[k]? = some l[k] := List.getElem?_eq_getElem (by omega)
    rw [wroteR_succ e]
    have := sec_lt hc r.pos k
    exact ih.write (by omega) (by omega) (by omega) (Nat.le_of_eq (pcB_size (okPc_data (hl _ (List.mem_of_getElem? e)))))
def rgApp (r : Rg) (n : Nat) : Rg := { r with pos := (r.pos + n) % r.cnt, used := r.used + n, seq := r.seq + 1 }
theorem cutL_ok (s : ByteArray) (e q : Int) (hs : s.size ≤ 6400) (hn : nums e q = true) : ∀ p ∈ cutL s e q, okPc p = true := fun p hp => by
  obtain ⟨k, hk⟩ := List.getElem?_of_mem hp
  have hlt : k < npc s.size := by have := (List.getElem?_eq_some_iff.1 hk).1; rwa [cutL_len] at this
  rw [cutL_get s e q hlt] at hk
  cases hk
  exact chunk_ok s e q hs hn hlt
theorem cutL_seq (s : ByteArray) (e q : Int) : ∀ p ∈ cutL s e q, p.seq = q ∧ p.epoch = e := fun p hp => by
  obtain ⟨k, hk⟩ := List.getElem?_of_mem hp
  have hlt : k < npc s.size := by have := (List.getElem?_eq_some_iff.1 hk).1; rwa [cutL_len] at this
  rw [cutL_get s e q hlt] at hk
  cases hk
  exact ⟨rfl, rfl⟩
theorem row_pc {E w : World} {L : List HP} {g n cap : Nat} {l : List Pc} (x : Sat E w (row 23 5 (.slice (some ⟨g, 0, none⟩) n cap) n (pcs l) :: L)) {k : Nat} {p : Pc} (hk : l[k]? = some p) (hn : 0 < n) :
    w.cell? ⟨g, k * 5, none⟩ = some (.int .i64 p.epoch) ∧ w.cell? ⟨g, k * 5 + 1, none⟩ = some (.int .i64 p.seq) ∧ w.cell? ⟨g, k * 5 + 2, none⟩ = some (.int .i64 p.part) ∧ w.cell? ⟨g, k * 5 + 3, none⟩ = some (.int .i64 p.parts) ∧ w.cell? ⟨g, k * 5 + 4, none⟩ = some (.string p.data) := by
  obtain ⟨g', cap', e, -, -, -, hsee⟩ := x.rowSees hn
  cases e
  have h : ∀ j u, p.cells[j]? = some u → w.cell? ⟨g, k * 5 + j, none⟩ = some u := fun j u hj => by
    have hj5 : j < 5 := (List.getElem?_eq_some_iff.1 hj).1
    have := flat5 Pc.cells 5 (fun _ => rfl) l k j p hk hj5
    have h2 := hsee (k * 5 + j) u (by unfold pcs; rw [this]; exact hj)
    rwa [Nat.zero_add] at h2
  exact ⟨h 0 _ rfl, h 1 _ rfl, h 2 _ rfl, h 3 _ rfl, h 4 _ rfl⟩

set_option maxRecDepth 100000 in
set_option maxHeartbeats 1600000 in
theorem append_full {E W : World} {L : List HP} {q b : Nat} {r : Rg} {D : Dk} (x : Sat E W (isRing q b r :: isDisk b D :: L)) (s : ByteArray) (hs : s.size ≤ 6400) (hn : nums r.ep r.seq = true) (hu : r.used ≤ 1000000) (hc : r.cnt ≤ 1000000) (hf : r.cnt - r.used < npc s.size) (huc : r.used ≤ r.cnt) :
    Calls Tryz.prog 26 #[.pointer (some ⟨q, 0, none⟩), .string s] W fun e w' => e = .returned (.int .i64 31) ∧ Sat E w' (isRing q b r :: isDisk b D :: L) := by
  have hxd := x.drew
  obtain ⟨-, -, -, -, -, c5, c6⟩ := ring7 hxd
  have hcut : ∀ (w : World), Sat E w (isRing q b r :: isDisk b D :: L) → _ := fun w y => cutS_ok (w := w) y s r.ep r.seq hs hn
  have hroom : ∀ (w : World) (M : List HP), Sat E w (isRing q b r :: M) → _ := fun w M y => room_ok (W := w) (L := M) y hu hc
  obtain ⟨n, hnn⟩ : ∃ n, npc s.size = n := ⟨_, rfl⟩
  rw [hnn] at hcut hf
  obtain ⟨EP, hEP⟩ : ∃ e, r.ep = e := ⟨_, rfl⟩
  obtain ⟨SQ, hSQ⟩ : ∃ e, r.seq = e := ⟨_, rfl⟩
  obtain ⟨CN, hCN⟩ : ∃ e, r.cnt = e := ⟨_, rfl⟩
  obtain ⟨US, hUS⟩ : ∃ e, r.used = e := ⟨_, rfl⟩
  rw [hCN, hUS] at hroom hf huc
  rw [hEP] at c6
  rw [hSQ] at c5
  rw [hEP, hSQ] at hcut
  have HX := Lib.hid hxd
  have HCUT := Lib.hid hcut
  have HROOM := Lib.hid hroom
  have hn0 : 0 < n := by rw [← hnn]; unfold npc; omega
  have hlt : (CN : Int) - (US : Int) < (n : Int) := by omega
  clear x hxd hcut hroom hEP hSQ hCN hUS hnn
  go_enter Tryz.func26, Tryz.ntmps26
  go_wp2
  refine wp_region_planL [(0, true), (1, true), (2, true), (3, true), (4, true), (5, true), (6, true), (7, true), (8, true), (9, false), (10, true), (11, true), (12, true), (13, true), (14, true)]
    [(9, fun w1 => w1.cell? ⟨q, 5, none⟩ = some (.int .i64 SQ) ∧ w1.cell? ⟨q, 6, none⟩ = some (.int .i64 EP))] (by kernel_rfl) (by kernel_rfl) (by intro c a d v w h; cases d <;> exact h) ?_ ?_
  · exact ⟨⟨c5, c6⟩, trivial⟩
  simp only [planOps, List.getElem?_cons_zero, List.getElem?_cons_succ]
  iterate 9 (first | ((apply plan_pure rfl; (intro w1; go_simp; try go_bits); with_reducible rfl); try simp only [Act.put, List.setIfInBounds_toArray, List.set_cons_zero, List.set_cons_succ]) | ((refine' plan_load 0 rfl (by kernel_rfl) rfl ?_ ?_; rotate_left; (intro w1 hw1; go_simp; with_reducible rfl)); try simp only [Act.put, List.setIfInBounds_toArray, List.set_cons_zero, List.set_cons_succ]))
  refine plan_loud rfl (fun K hK => ?_); go_simp
  refine (HCUT.out _ HX.out).mono ?_
  rintro e w2 ⟨g, cap, rfl, hx2⟩
  have HX2 := Lib.hid hx2
  clear hx2
  dsimp only
  refine hK _ _ trivial ?_
  clear hK K
  try simp only [Act.put, List.setIfInBounds_toArray, List.set_cons_zero, List.set_cons_succ]
  iterate 5 (first | ((apply plan_pure rfl; (intro w1; go_simp; try go_bits); with_reducible rfl); try simp only [Act.put, List.setIfInBounds_toArray, List.set_cons_zero, List.set_cons_succ]) | ((refine' plan_load 0 rfl (by kernel_rfl) rfl ?_ ?_; rotate_left; (intro w1 hw1; go_simp; with_reducible rfl)); try simp only [Act.put, List.setIfInBounds_toArray, List.set_cons_zero, List.set_cons_succ]))
  refine plan_nil ?_
  clear c5 c6
  go_wp2_with (go_at_call 20; refine (HROOM.out _ _ HX2.out.p1).mono ?_; rintro e w3 ⟨rfl, hw3⟩; have hx3 := HX2.out.drew; rw [← hw3] at hx3; have HX3 := Lib.hid hx3; clear hx3 hw3)
  go_ret
  exact ⟨rfl, HX3.out.tail⟩
end Go.Proofs.YtmkpglabiikdeaaGreatDoor
/-
  posthouse/ring: Append where there is room, walked.
-/
namespace Go.Proofs.YtmkpglabiikdeaaGreatDoor
open Go.RowKit PH
attribute [local irreducible] fld pcB pcOfB left

set_option maxRecDepth 100000 in
set_option maxHeartbeats 3200000 in
theorem append_ok {E W : World} {L : List HP} {q b : Nat} {r : Rg} {D : Dk} {n0 k0 : Nat} (x : Sat E W (isRing q b r :: isDisk b D :: L)) (f : Fine n0 D k0) (hk0 : k0 ≤ 90000) (s : ByteArray) (hs : s.size ≤ 6400) (hn : nums r.ep r.seq = true) (hsq : r.seq ≤ 4611686018427600000)
    (hc : 0 < r.cnt) (hc1 : r.fro + r.cnt ≤ n0) (hn0 : n0 ≤ 100000) (hp : r.pos < r.cnt) (huc : r.used ≤ r.cnt) (hf : npc s.size ≤ r.cnt - r.used) :
    Calls Tryz.prog 26 #[.pointer (some ⟨q, 0, none⟩), .string s] W fun e w' => e = .returned (.int .i64 0) ∧ Sat E w' (isRing q b (rgApp r (npc s.size)) :: isDisk b (wroteR D r (cutL s r.ep r.seq) (npc s.size)) :: L) := by
  have hxd := x.drew
  obtain ⟨-, -, -, -, -, c5, c6⟩ := ring7 hxd
  have hcut : ∀ (w : World), Sat E w (isRing q b r :: isDisk b D :: L) → _ := fun w y => cutS_ok (w := w) y s r.ep r.seq hs hn
  have hroom : ∀ (w : World) (M : List HP), Sat E w (isRing q b r :: M) → _ := fun w M y => room_ok (W := w) (L := M) y (by omega) (by omega)
  have hll := cutL_len s r.ep r.seq
  have hlok := cutL_ok s r.ep r.seq hs hn
  have hlsq := cutL_seq s r.ep r.seq
  have hn1 : 0 < npc s.size := by unfold npc; omega
  have hn64 : npc s.size ≤ 64 := by unfold npc; omega
  obtain ⟨l, hl⟩ : ∃ l, cutL s r.ep r.seq = l := ⟨_, rfl⟩
  rw [hl] at hcut hll hlok hlsq ⊢
  obtain ⟨n, hnn⟩ : ∃ n, npc s.size = n := ⟨_, rfl⟩
  rw [hnn] at hcut hf hll hn1 hn64 ⊢
  have hfine := fun k hk => f.wrote hk0 hc hc1 hlok k hk (by omega)
  have hwr : ∀ (k : Nat) (p : Pc) (w : World) (M : List HP), l[k]? = some p → Sat E w (isDisk b (wroteR D r l k) :: M) → Calls Tryz.prog 64 #[.pointer (some ⟨b, 0, none⟩), .int .i64 (sec r r.pos k), .string (pcB p)] w fun e w' => e = .returned (.int .i64 0) ∧ Sat E w' (isDisk b (wroteR D r l (k + 1)) :: M) := fun k p w M hk y => by
    have hkl := (List.getElem?_eq_some_iff.1 hk).1
    have ff := hfine k (by omega)
    have h := write_ok y ff.run.ok (sec r r.pos k) (pcB p) (by rw [pcB_size (okPc_data (hlok _ (List.mem_of_getElem? hk)))]; omega)
    have hsl := sec_lt hc r.pos k
    rw [ff.writeE (by omega) (by omega) (Nat.le_of_eq (pcB_size (okPc_data (hlok _ (List.mem_of_getElem? hk))))), ← wroteR_succ hk] at h
    exact h
  have hpl : ∀ (i : Nat) (hi : i ≤ 1000) (W : World) (M : List HP), Sat E W (isRing q b r :: M) → _ := fun i hi W M y => place_ok (W := W) (L := M) y hc (by omega) r.pos i (by omega) (by omega)
  have hr7 : ∀ (W : World) (M : List HP), Sat E W (isRing q b r :: M) → W.cell? ⟨q, 0, none⟩ = some (.pointer (some ⟨b, 0, none⟩)) ∧ W.cell? ⟨q, 3, none⟩ = some (.int .i64 r.pos) := fun W M y => ⟨(ring7 y).1, (ring7 y).2.2.2.1⟩
  have hput : ∀ (p : Pc) (W : World) (M : List HP), p ∈ l → Sat E W M → Calls Tryz.prog 11 #[.agg p.arr] W fun e w' => e = .returned (.tuple #[.string (pcB p), .int .i64 0]) ∧ Sat E w' M := fun p W M hp y => by
    have h := pcPut_ok y p (by have := okPc_data (hlok p hp); omega) (by rw [(hlsq p hp).1]; omega)
    rw [putB_yes (hlok p hp)] at h
    have e : chk p = 0 := by unfold chk; rw [hlok p hp]; rfl
    rw [e] at h
    exact h
  have hend : ∀ (W : World) (M : List HP), Sat E W (isRing q b r :: M) → W.cell? ⟨q, 2, none⟩ = some (.int .i64 r.cnt) ∧ W.cell? ⟨q, 3, none⟩ = some (.int .i64 r.pos) ∧ W.cell? ⟨q, 4, none⟩ = some (.int .i64 r.used) ∧ W.cell? ⟨q, 5, none⟩ = some (.int .i64 r.seq) ∧ (∀ i, W.frozen? ⟨q, i, none⟩ = false) := fun W M y => ⟨(ring7 y).2.2.1, (ring7 y).2.2.2.1, (ring7 y).2.2.2.2.1, (ring7 y).2.2.2.2.2.1, fun i => frozen_blk y.at i⟩
  obtain ⟨EP, hEP⟩ : ∃ e, r.ep = e := ⟨_, rfl⟩
  obtain ⟨SQ, hSQ⟩ : ∃ e, r.seq = e := ⟨_, rfl⟩
  obtain ⟨CN, hCN⟩ : ∃ e, r.cnt = e := ⟨_, rfl⟩
  obtain ⟨US, hUS⟩ : ∃ e, r.used = e := ⟨_, rfl⟩
  obtain ⟨PO, hPO⟩ : ∃ e, r.pos = e := ⟨_, rfl⟩
  have happ : rgApp r n = { r with pos := (PO + n) % CN, used := US + n, seq := SQ + 1 } := by unfold rgApp; rw [hPO, hCN, hUS, hSQ]
  rw [hCN, hUS] at hroom hf huc
  rw [hEP] at c6
  rw [hSQ] at c5 hsq
  rw [hEP, hSQ] at hcut
  rw [hPO] at hwr hpl hr7
  rw [hCN, hPO, hUS, hSQ] at hend
  rw [hCN] at hc hc1 hp
  rw [hPO] at hp
  have hs0 : 1 ≤ SQ := by
    unfold nums at hn
    simp only [Bool.and_eq_true, decide_eq_true_eq] at hn
    rw [← hSQ]; exact hn.2
  have HX := Lib.hid hxd
  have HCUT := Lib.hid hcut
  have HROOM := Lib.hid hroom
  have HWR := Lib.hid hwr
  have HPL := Lib.hid hpl
  have HR7 := Lib.hid hr7
  have HPUT := Lib.hid hput
  have HEND := Lib.hid hend
  have HAPP := Lib.hid happ
  have HLL := Lib.hid hll
  have HUS := Lib.hid hUS
  have HSQ := Lib.hid hSQ
  have hlt : ¬ (CN : Int) - (US : Int) < (n : Int) := by omega
  clear x hxd hcut hroom hwr hpl hr7 hput hend happ hlok hlsq hl hfine f hn hEP hSQ hCN hUS hPO hnn
  go_enter Tryz.func26, Tryz.ntmps26
  go_wp2
  refine wp_region_planL [(0, true), (1, true), (2, true), (3, true), (4, true), (5, true), (6, true), (7, true), (8, true), (9, false), (10, true), (11, true), (12, true), (13, true), (14, true)]
    [(9, fun w1 => w1.cell? ⟨q, 5, none⟩ = some (.int .i64 SQ) ∧ w1.cell? ⟨q, 6, none⟩ = some (.int .i64 EP))] (by kernel_rfl) (by kernel_rfl) (by intro c a d v w h; cases d <;> exact h) ?_ ?_
  · exact ⟨⟨c5, c6⟩, trivial⟩
  simp only [planOps, List.getElem?_cons_zero, List.getElem?_cons_succ]
  iterate 9 (first | ((apply plan_pure rfl; (intro w1; go_simp; try go_bits); with_reducible rfl); try simp only [Act.put, List.setIfInBounds_toArray, List.set_cons_zero, List.set_cons_succ]) | ((refine' plan_load 0 rfl (by kernel_rfl) rfl ?_ ?_; rotate_left; (intro w1 hw1; go_simp; with_reducible rfl)); try simp only [Act.put, List.setIfInBounds_toArray, List.set_cons_zero, List.set_cons_succ]))
  refine plan_loud rfl (fun K hK => ?_); go_simp
  refine (HCUT.out _ HX.out).mono ?_
  rintro e w2 ⟨g, cap, rfl, hx2⟩
  have HX2 := Lib.hid hx2
  clear hx2
  dsimp only
  refine hK _ _ trivial ?_
  clear hK K
  try simp only [Act.put, List.setIfInBounds_toArray, List.set_cons_zero, List.set_cons_succ]
  iterate 5 (first | ((apply plan_pure rfl; (intro w1; go_simp; try go_bits); with_reducible rfl); try simp only [Act.put, List.setIfInBounds_toArray, List.set_cons_zero, List.set_cons_succ]) | ((refine' plan_load 0 rfl (by kernel_rfl) rfl ?_ ?_; rotate_left; (intro w1 hw1; go_simp; with_reducible rfl)); try simp only [Act.put, List.setIfInBounds_toArray, List.set_cons_zero, List.set_cons_succ]))
  refine plan_nil ?_
  clear c5 c6
  go_wp2_with (go_at_call 20; refine (HROOM.out _ _ HX2.out.p1).mono ?_; rintro e w3 ⟨rfl, hw3⟩; have hx3 := HX2.out.drew; rw [← hw3] at hx3; have HX3 := Lib.hid hx3; clear hx3 hw3)
  go_loopw [37] (fun i wr => ∃ k : Nat, k ≤ n ∧ i = .int .i64 k ∧ Sat E wr (isRing q b r :: isDisk b (wroteR D r l k) :: row 23 5 (.slice (some ⟨g, 0, none⟩) n cap) n (pcs l) :: L)) (fun i _ => n - (intOf i).toNat)
  case atStart => exact ⟨0, by omega, rfl, HX3.out.p2.p2⟩
  case round =>
    obtain ⟨k, hk, rfl, hx⟩ := hrel
    by_cases hkl : k < n
    · obtain ⟨p, hp2⟩ : ∃ p, l[k]? = some p := ⟨_, List.getElem?_eq_getElem (by rw [HLL.out]; exact hkl)⟩
      have hmem := List.mem_of_getElem? hp2
      obtain ⟨c0, c1, c2, c3, c4⟩ := row_pc hx.p2 hp2 hn1
      have hpp := fun (W : World) (M : List HP) (y : Sat E W M) => HPUT.out p W M hmem y
      have hww := fun (W : World) (M : List HP) (y : Sat E W (isDisk b (wroteR D r l k) :: M)) => HWR.out k p W M hp2 y
      obtain ⟨T, hT⟩ : ∃ T, pcB p = T := ⟨_, rfl⟩
      rw [hT] at hpp hww
      obtain ⟨p0, p1, p2, p3, p4⟩ := p
      unfold Pc.arr at hpp
      dsimp only at c0 c1 c2 c3 c4 hpp
      have hxa := zpq hx
      obtain ⟨h, hh⟩ : ∃ h, wr.heap.size = h := ⟨_, rfl⟩
      rw [hh] at hxa
      have HXA := Lib.hid hxa
      have HPP := Lib.hid hpp
      have HWW := Lib.hid hww
      clear hx hxa hpp hww hT hp2 hmem
      go_wp2_with (first
        | (with_reducible refine wpList_store_pc HXA.out ⟨p0, p1, p2, p3, p4⟩ ?_ ?_; exact ⟨rfl, _, _, rfl, rfl, rfl⟩; intro w4 hx4; clear c0 c1 c2 c3 c4; obtain ⟨d0, d1, d2, d3, d4⟩ := pc5 (p := ⟨p0, p1, p2, p3, p4⟩) hx4; dsimp only at d0 d1 d2 d3 d4; have HX4 := Lib.hid hx4; clear hx4)
        | (go_at_call 11; refine (HPP.out _ _ HX4.out).mono ?_; rintro e w5 ⟨rfl, hx5⟩; clear d0 d1 d2 d3 d4; have hx6 := hx5.drew; obtain ⟨a0, a3⟩ := HR7.out _ _ hx6.p1; have HX6 := Lib.hid hx6; clear hx5 hx6))
      refine wp_region_planL [(0, true), (1, true), (2, true), (3, true), (4, true), (5, true), (6, true), (7, true), (8, true), (9, true), (11, true), (10, false), (12, false), (13, true)]
        [(14, fun w1 => w1.cell? ⟨q, 0, none⟩ = some (.pointer (some ⟨b, 0, none⟩)) ∧ w1.cell? ⟨q, 3, none⟩ = some (.int .i64 PO))] (by kernel_rfl) (by kernel_rfl) (by intro c a d v w h; cases d <;> exact h) ?_ ?_
      · exact ⟨⟨a0, a3⟩, trivial⟩
      simp only [planOps, List.getElem?_cons_zero, List.getElem?_cons_succ]
      iterate 11 (first | ((apply plan_pure rfl; (intro w1; go_simp; try go_bits); with_reducible rfl); try simp only [Act.put, List.setIfInBounds_toArray, List.set_cons_zero, List.set_cons_succ]) | ((refine' plan_load 0 rfl (by kernel_rfl) rfl ?_ ?_; rotate_left; (intro w1 hw1; go_simp; with_reducible rfl)); try simp only [Act.put, List.setIfInBounds_toArray, List.set_cons_zero, List.set_cons_succ]))
      refine plan_loud rfl (fun K hK => ?_); go_simp
      refine (HPL.out k (by omega) _ _ HX6.out.p1).mono ?_
      rintro e w7 ⟨rfl, hw7⟩
      have hx7 := HX6.out.drew
      rw [← hw7] at hx7
      have HX7 := Lib.hid hx7
      clear hw7 hx7
      dsimp only
      refine hK _ _ ⟨HR7.out _ _ HX7.out.p1, trivial⟩ ?_
      clear hK K
      try simp only [Act.put, List.setIfInBounds_toArray, List.set_cons_zero, List.set_cons_succ]
      refine plan_loud rfl (fun K hK => ?_); go_simp
      refine (HWW.out _ _ HX7.out.p2).mono ?_
      rintro e w8 ⟨rfl, hx8⟩
      have HX8 := Lib.hid hx8
      clear hx8
      dsimp only
      refine hK _ _ ⟨HR7.out _ _ HX8.out.p2, trivial⟩ ?_
      clear hK K a0 a3
      try simp only [Act.put, List.setIfInBounds_toArray, List.set_cons_zero, List.set_cons_succ]
      iterate 1 (first | ((apply plan_pure rfl; (intro w1; go_simp; try go_bits); with_reducible rfl); try simp only [Act.put, List.setIfInBounds_toArray, List.set_cons_zero, List.set_cons_succ]) | ((refine' plan_load 0 rfl (by kernel_rfl) rfl ?_ ?_; rotate_left; (intro w1 hw1; go_simp; with_reducible rfl)); try simp only [Act.put, List.setIfInBounds_toArray, List.set_cons_zero, List.set_cons_succ]))
      refine plan_nil ?_
      go_wp2
      exact ⟨⟨k + 1, by omega, by go_num, HX8.out.p1.tail.p1⟩, by simp [intOf]; omega⟩
    · obtain rfl : k = n := by omega
      obtain ⟨e2, e3, e4, e5, ef⟩ := HEND.out _ _ hx.drew
      obtain ⟨-, -, y4, y5, yf⟩ := HEND.out _ _ hx
      have z3 := yf 3
      have z4 := yf 4
      have z5 := yf 5
      have hne : ¬ (CN = 0) := by omega
      have hcast : (((PO + k) % CN : Nat) : Int) = ((PO : Int) + (k : Int)) % (CN : Int) := by rw [Int.natCast_emod]; rfl
      have happ := HAPP.out
      have hx1 := (hx.setCell 3 (.int .i64 (((PO : Int) + (k : Int)) % (CN : Int)))).drew
      have hx2 := (hx1.setCell 4 (.int .i64 ((US : Int) + (k : Int)))).setCell 5 (.int .i64 (SQ + 1))
      have hx3 := hx2.head (A' := isRing q b (rgApp r k)) (fun kk hk => by rw [happ]; unfold isRing Rg.arr; dsimp only; rw [hcast]; exact hk)
      have HX9 := Lib.hid hx3
      clear hx hx1 hx2 hx3 happ ef hcast yf e4 e5
      go_wp2
      refine wp_region_planL [(0, true), (1, true), (2, true), (3, true), (4, true), (5, true), (6, true), (7, true), (8, true), (9, true), (10, true), (11, true), (12, true), (13, true), (14, true), (15, false)]
        [(15, fun w1 => w1.cell? ⟨q, 3, none⟩ = some (.int .i64 PO) ∧ w1.cell? ⟨q, 2, none⟩ = some (.int .i64 CN))] (by kernel_rfl) (by kernel_rfl) (by intro c a d v w h; cases d <;> exact h) ?_ ?_
      · exact ⟨⟨e3, e2⟩, trivial⟩
      simp only [planOps, List.getElem?_cons_zero, List.getElem?_cons_succ]
      iterate 15 (first | ((apply plan_pure rfl; (intro w1; go_simp; try go_bits); with_reducible rfl); try simp only [Act.put, List.setIfInBounds_toArray, List.set_cons_zero, List.set_cons_succ]) | ((refine' plan_load 0 rfl (by kernel_rfl) rfl ?_ ?_; rotate_left; (intro w1 hw1; go_simp; with_reducible rfl)); try simp only [Act.put, List.setIfInBounds_toArray, List.set_cons_zero, List.set_cons_succ]))
      refine plan_loud rfl (fun K hK => ?_); go_simp
      refine hK _ _ trivial (plan_nil ?_)
      clear hK K e2 e3
      go_wp2
      go_ret
      exact ⟨rfl, HX9.out.p2.tail⟩
end Go.Proofs.YtmkpglabiikdeaaGreatDoor
