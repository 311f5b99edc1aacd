/-
  Layer 12's steps: an argument []Step opened to what its cells read as.
-/
import Derived.ProofKit
import Derived.Deep.Slices
import Derived.Deep.Fields
import Derived.OpenShut
import Derived.Test.YtmkpglabiikdeaaGreatDoorRows
import Derived.Test.YtmkpglabiikdeaaGreatDoorRange
import Derived.Test.YtmkpglabiikdeaaGreatDoorRunP
import Derived.Test.YtmkpglabiikdeaaGreatDoorPcG
namespace Go.Proofs.YtmkpglabiikdeaaGreatDoor
open Go.ChangeShapes Go.WideShapes Go.RowKit Go.Deep PH

theorem add_plain (b off k : Nat) : (⟨b, off, none⟩ : Addr).add k = ⟨b, off + k, none⟩ := by unfold Addr.add; split <;> simp_all
/-- A step of layer 12. -/
structure Pq where
  kind : Int
  s : ByteArray
  keep : List Int
  a : Option Addr
  c : Nat
def Pq.cells (x : Pq) : List Value := [.int .i64 x.kind, .string x.s, .slice x.a x.keep.length x.c]
def pqs (l : List Pq) : List Value := l.flatMap Pq.cells
theorem pqs_length : ∀ l : List Pq, (pqs l).length = l.length * 3
  | [] => rfl
  | p :: l => by
    have := pqs_length l
    unfold pqs at *
    rw [List.flatMap_cons, List.length_append, this, List.length_cons, Nat.succ_mul]
    show 3 + _ = _
    omega
/-- What is so of each step of an argument. -/
def Pq.ok (W : World) (x : Pq) : Prop := SeesI W x.a x.keep ∧ x.keep.length ≤ maxLen ∧ x.s.size ≤ maxLen

section
variable {H : Type} {enc : TypeId × Value → H} {W : World}

set_option maxRecDepth 100000 in
theorem open_ints {fuel len cap : Nat} {a : Option Addr} {x : DataW H × List MemPlace} (h : DataW.trod enc Tryz.prog W 0 (fun _ => true) true fuel 55 [.slice a len cap] = some x) :
    ∃ zs : List Int, zs.length = len ∧ SeesI W a zs ∧ len ≤ maxLen := by
  have hc1 : Tryz.prog.cellsOf 3 = 1 := by kernel_rfl
  rcases open_slice Tryz.underlying55 h with ⟨hcs, _⟩ | ⟨a0, len', cap', m, n, D, Pl, hcs, _, hl, hm, hmm, _, hel⟩
  · cases hcs
    exact ⟨[], rfl, fun j u hj => by simp at hj, by unfold maxLen; omega⟩
  · cases hcs
    simp only [if_true] at hmm
    subst hmm
    rw [hc1] at hel
    have hx : ∀ i, i < len → ∃ z : Int, W.cell? (a0.add (i * 1)) = some (.int .i64 z) := by
      intro i hi
      obtain ⟨cs', hc0, ht0⟩ := hel i (by omega)
      obtain ⟨_, _, hcell⟩ := World.cells?_some hc0
      have hlen : cs'.length = 1 := by
        have := World.cells?_some hc0
        simp_all
      match cs', hlen, ht0, hcell with
      | [c0], _, ht0, hcell =>
        obtain ⟨n0, e0, _, _⟩ := DataW.trod_int Tryz.underlying3 ht0
        cases e0
        refine ⟨n0, ?_⟩
        have := hcell 0 (by omega)
        simpa [Addr.add] using this
    obtain ⟨f, hf⟩ : ∃ f : Nat → Int, ∀ i, i < len → W.cell? (a0.add (i * 1)) = some (.int .i64 (f i)) := by
      classical
      refine ⟨fun i => if hi : i < len then (hx i hi).choose else 0, fun i hi => ?_⟩
      simp only [dif_pos hi]
      exact (hx i hi).choose_spec
    refine ⟨(List.range len).map f, by simp, ?_, Nat.le_trans hl hm⟩
    intro j u hj
    have hjl : j < len := by
      have := (List.getElem?_eq_some_iff.1 hj).1
      simpa using this
    have hu : f j = u := by simpa [hjl] using hj
    subst hu
    obtain ⟨b, off, spot⟩ := a0
    have h0 := hf j hjl
    obtain rfl : spot = none := by simpa [Addr.add] using World.cell?_spot (hf 0 (by omega))
    refine ⟨b, off, rfl, ?_⟩
    rw [add_plain, Nat.mul_one] at h0
    exact h0

set_option maxRecDepth 100000 in
theorem play_cells {fuel : Nat} {cs : List Value} {x : DataW H × List MemPlace} (h : DataW.trod enc Tryz.prog W 0 (fun _ => true) true fuel 57 cs = some x) :
    ∃ p : Pq, cs = p.cells ∧ p.ok W := by
  obtain ⟨xs, n, _, _, hlen, hxl, hf⟩ := DataW.trod_struct Tryz.underlying57 h
  have hc5 : Tryz.prog.cellsOf 57 = 3 := by kernel_rfl
  rw [hc5] at hlen
  match cs, hlen, xs, hxl with
  | [c0, c1, c2], _, [y0, y1, y2], _ =>
    have f0 := hf 0 _ rfl
    have f1 := hf 1 _ rfl
    have f2 := hf 2 _ rfl
    simp only [List.getElem?_cons_zero, List.getElem?_cons_succ] at f0 f1 f2
    obtain ⟨n0, e0, _, _⟩ := DataW.trod_int Tryz.underlying3 f0
    obtain ⟨n1, e1, _, hz2⟩ := DataW.trod_string Tryz.underlying9 f1
    cases e0; cases e1
    obtain ⟨a, len, cap, rfl⟩ : ∃ a len cap, c2 = .slice a len cap := by
      rcases open_slice Tryz.underlying55 f2 with ⟨hcs, _⟩ | ⟨a0, len', cap', m, n, D, Pl, hcs, _⟩
      · cases hcs; exact ⟨_, _, _, rfl⟩
      · cases hcs; exact ⟨_, _, _, rfl⟩
    obtain ⟨zs, rfl, hsee, hmax⟩ := open_ints f2
    exact ⟨⟨n0, n1, zs, a, cap⟩, rfl, hsee, hmax, hz2⟩

set_option maxRecDepth 100000 in
theorem open_plays {fuel len cap : Nat} {a : Option Addr} {x : DataW H × List MemPlace} (h : DataW.trod enc Tryz.prog W 0 (fun _ => true) true fuel 53 [.slice a len cap] = some x) :
    ∃ l : List Pq, l.length = len ∧ Sees W a (pqs l) ∧ (∀ x ∈ l, x.ok W) ∧ len ≤ maxLen := by
  have hc5 : Tryz.prog.cellsOf 57 = 3 := by kernel_rfl
  rcases open_slice Tryz.underlying53 h with ⟨hcs, _⟩ | ⟨a0, len', cap', m, n, D, Pl, hcs, _, hl, hm, hmm, _, hel⟩
  · cases hcs
    exact ⟨[], rfl, fun j u hj => by simp [pqs] at hj, fun x hx => by simp at hx, by unfold maxLen; omega⟩
  · cases hcs
    simp only [if_true] at hmm
    subst hmm
    rw [hc5] at hel
    have hx : ∀ i, i < len → ∃ p : Pq, (∀ j u, p.cells[j]? = some u → W.cell? ((a0.add (i * 3)).add j) = some u) ∧ p.ok W := by
      intro i hi
      obtain ⟨cs', hc0, ht0⟩ := hel i (by omega)
      obtain ⟨p, rfl, h1⟩ := play_cells ht0
      obtain ⟨_, _, hcell⟩ := World.cells?_some hc0
      refine ⟨p, fun j u hj => ?_, h1⟩
      have hj5 : j < 3 := (List.getElem?_eq_some_iff.1 hj).1
      rw [hcell j hj5, hj]
    obtain ⟨f, hf⟩ : ∃ f : Nat → Pq, ∀ i, i < len → (∀ j u, (f i).cells[j]? = some u → W.cell? ((a0.add (i * 3)).add j) = some u) ∧ (f i).ok W := by
      classical
      refine ⟨fun i => if hi : i < len then (hx i hi).choose else ⟨0, ByteArray.empty, [], none, 0⟩, fun i hi => ?_⟩
      simp only [dif_pos hi]
      exact (hx i hi).choose_spec
    refine ⟨(List.range len).map f, by simp, ?_, ?_, Nat.le_trans hl hm⟩
    · intro j u hj
      have hjl : j < len * 3 := by
        have := (List.getElem?_eq_some_iff.1 hj).1
        rw [pqs_length] at this
        simpa using this
      have hi : j / 3 < len := by omega
      have e : j / 3 * 3 + j % 3 = j := by omega
      have h1 := flat5 Pq.cells 3 (fun _ => rfl) ((List.range len).map f) (j / 3) (j % 3) (f (j / 3)) (by simp [hi]) (by omega)
      rw [e] at h1
      have h2 := (hf (j / 3) hi).1 (j % 3) u (by rw [← h1]; exact hj)
      obtain ⟨b, off, spot⟩ := a0
      obtain rfl : spot = none := by simpa [Addr.add] using World.cell?_spot ((hf 0 (by omega)).1 0 (.int .i64 (f 0).kind) rfl)
      refine ⟨b, off, rfl, ?_⟩
      rw [add_plain, add_plain, Nat.add_assoc, e] at h2
      exact h2
    · intro x hx
      obtain ⟨i, hi, rfl⟩ := List.mem_map.1 hx
      exact (hf i (List.mem_range.1 hi)).2
end
theorem Sees.play {w : World} {a : Option Addr} {l : List Pq} (h : Sees w a (pqs l)) {k : Nat} {x : Pq} (hk : l[k]? = some x) :
    ∃ b off, a = some ⟨b, off, none⟩ ∧ (∀ j u, x.cells[j]? = some u → w.cell? ⟨b, off + k * 3 + j, none⟩ = some u) := by
  have g : ∀ j, j < 3 → (pqs l)[k * 3 + j]? = x.cells[j]? := fun j hj => flat5 Pq.cells 3 (fun _ => rfl) l k j x hk hj
  obtain ⟨b, off, rfl, -⟩ := h _ _ (g 0 (by omega))
  refine ⟨b, off, rfl, fun j u hj => ?_⟩
  have hj11 : j < 3 := (List.getElem?_eq_some_iff.1 hj).1
  obtain ⟨b', off', e, h1⟩ := h _ u ((g j hj11).trans hj)
  cases e
  rw [Nat.add_assoc]; exact h1
/-- A step that is not too long. -/
def smallP (x : Pq) : Bool := decide (x.s.size ≤ 1000) && decide (x.keep.length ≤ 60)
def bigP (l : List Pq) : Bool := !(decide (l.length ≤ 40) && l.all smallP)
theorem bigP_no {l : List Pq} (h : bigP l = false) : l.length ≤ 40 ∧ ∀ x ∈ l, x.s.size ≤ 1000 ∧ x.keep.length ≤ 60 := by
  unfold bigP at h
  simp only [Bool.not_eq_false', Bool.and_eq_true, decide_eq_true_eq, List.all_eq_true] at h
  refine ⟨h.1, fun x hx => ?_⟩
  have := h.2 x hx
  unfold smallP at this
  simpa using this
theorem bigP_yes {l : List Pq} {x : Pq} (hx : x ∈ l) (h : smallP x = false) : bigP l = true := by
  unfold bigP
  have : l.all smallP = false := List.all_eq_false.2 ⟨x, hx, by simp [h]⟩
  rw [this]; simp
theorem bigP_all {l : List Pq} {k : Nat} (h : ∀ j, j < k → ∀ p, l[j]? = some p → smallP p = true) (hk : l.length ≤ k ∨ 40 ≤ k) : bigP l = decide (40 < l.length) := by
  by_cases hl : l.length ≤ 40
  · have : l.all smallP = true := List.all_eq_true.2 fun x hx => by
      obtain ⟨j, hj⟩ := List.getElem?_of_mem hx
      exact h j (by have := (List.getElem?_eq_some_iff.1 hj).1; omega) x hj
    unfold bigP
    rw [this]; simp [hl]
  · unfold bigP
    simp [hl]; omega

end Go.Proofs.YtmkpglabiikdeaaGreatDoor
/-
  Layer 12: steps that are not too long; lists of texts that are alike, walked.
-/
namespace Go.Proofs.YtmkpglabiikdeaaGreatDoor
open Go.RowKit PH

set_option maxRecDepth 100000 in
set_option maxHeartbeats 400000 in
theorem large12_ok {w : World} {a : Option Addr} {c : Nat} {l : List Pq} (h : Sees w a (pqs l)) (hl : l.length ≤ 9223372036854775807) (hsz : ∀ x ∈ l, x.s.size ≤ 9223372036854775807 ∧ x.keep.length ≤ 9223372036854775807) :
    Calls Tryz.prog 28 #[.slice a l.length c] w fun e w' => e = .returned (.bool (bigP l)) ∧ w' = w := by
  obtain ⟨n, hn⟩ : ∃ n, l.length = n := ⟨_, rfl⟩
  have HN := Lib.hid hn
  have HS := Lib.hid h
  have HSZ := Lib.hid hsz
  rw [hn] at hl ⊢
  clear hn h hsz
  obtain ⟨r, hr⟩ : ∃ r, bigP l = r := ⟨_, rfl⟩
  rw [hr]
  have HR := Lib.hid hr
  clear hr
  go_enter Tryz.func28, Tryz.ntmps28
  go_wp2
  go_loop [3] (fun i => ∃ k : Nat, k ≤ n ∧ k ≤ 40 ∧ i = .int .i64 k ∧ Hid (∀ j, j < k → ∀ p, l[j]? = some p → smallP p = true)) (fun i => 40 - (intOf i).toNat)
  case atStart => exact ⟨0, by omega, by omega, rfl, Lib.hid fun j hj => by omega⟩
  case round =>
    obtain ⟨k, hk, hk7, rfl, HNO⟩ := hrel
    by_cases h1 : k < n
    · by_cases h2 : k < 40
      · obtain ⟨x, hx⟩ : ∃ x, l[k]? = some x := ⟨_, List.getElem?_eq_getElem (by rw [HN.out]; exact h1)⟩
        obtain ⟨b, off, rfl, hc⟩ := HS.out.play hx
        obtain ⟨z1, z2⟩ := HSZ.out x (List.mem_of_getElem? hx)
        obtain ⟨kd, s, zs, ax, cx⟩ := x
        have c2 := hc 1 (.string s) rfl
        have c3 := hc 2 (.slice ax zs.length cx) rfl
        dsimp only at z1 z2
        have HXX := Lib.hid hx
        clear hx hc
        by_cases h3 : 1000 < s.size
        · go_wp2
          go_ret
          exact ⟨retB ((bigP_yes (List.mem_of_getElem? HXX.out) (by simp [smallP]; omega)).symm.trans HR.out), rfl⟩
        · by_cases h4 : 60 < zs.length
          · go_wp2
            go_ret
            exact ⟨retB ((bigP_yes (List.mem_of_getElem? HXX.out) (by simp [smallP]; omega)).symm.trans HR.out), rfl⟩
          · go_wp2
            go_round
            case rel => exact ⟨k + 1, by omega, by omega, by go_num, Lib.hid fun j hj p hp => by
              rcases Nat.lt_or_ge j k with h' | h'
              · exact HNO.out j h' p hp
              · obtain rfl : j = k := by omega
                rw [HXX.out] at hp; cases hp; simp [smallP]; omega⟩
            case measure => simp [intOf]; omega
      · go_wp2
        go_ret
        refine ⟨retB ?_, rfl⟩
        rw [← HR.out, bigP_all HNO.out (.inr (by omega)), HN.out]
        simp; omega
    · go_wp2
      go_ret
      refine ⟨retB ?_, rfl⟩
      rw [← HR.out, bigP_all HNO.out (.inl (by rw [HN.out]; omega)), HN.out]
      simp; omega

theorem Sees.text {w : World} {a : Option Addr} {l : List ByteArray} (h : Sees w a (sects l)) {k : Nat} {s : ByteArray} (hk : l[k]? = some s) : ∃ b off, a = some ⟨b, off, none⟩ ∧ w.cell? ⟨b, off + k, none⟩ = some (.string s) :=
  h k _ (by unfold sects; rw [List.getElem?_map, hk]; rfl)

set_option maxRecDepth 100000 in
set_option maxHeartbeats 800000 in
theorem sameN_ok {w : World} {a b : Option Addr} {c d : Nat} {l m : List ByteArray} (hl : Sees w a (sects l)) (hm : Sees w b (sects m)) (hn : l.length ≤ 9223372036854775806) (_hn2 : m.length ≤ 9223372036854775806) :
    Calls Tryz.prog 30 #[.slice a l.length c, .slice b m.length d] w fun e w' => e = .returned (.bool (decide (l = m))) ∧ Below w.heap.size w w' := by
  by_cases hlen : l.length = m.length
  · have hlb : ((l.length : Int) != (m.length : Int)) = false := by simp [hlen]
    have HLEN := Lib.hid hlen
    clear hlen
    go_enter Tryz.func30, Tryz.ntmps30
    go_wp2
    go_loopw [5] (fun i wr => ∃ k : Nat, k ≤ l.length ∧ i = .int .i64 k ∧ (∀ j, j < k → l[j]? = m[j]?) ∧ Below w.heap.size w wr) (fun i _ => l.length - (intOf i).toNat)
    case atStart => exact ⟨0, by omega, rfl, fun j hj => by omega, Below.refl _ _⟩
    case round =>
      obtain ⟨k, hk, rfl, hg, hb⟩ := hrel
      have HG := Lib.hid hg
      have HB := Lib.hid hb
      clear hg hb
      by_cases hlt : k < l.length
      · have hlt2 : k < m.length := by rw [← HLEN.out]; exact hlt
        obtain ⟨s, hs⟩ : ∃ s, l[k]? = some s := ⟨_, List.getElem?_eq_getElem hlt⟩
        obtain ⟨t, ht⟩ : ∃ s, m[k]? = some s := ⟨_, List.getElem?_eq_getElem hlt2⟩
        obtain ⟨b1, off1, rfl, c0⟩ := (hl.kept HB.out.drew).text hs
        obtain ⟨b2, off2, rfl, d0⟩ := (hm.kept HB.out.drew).text ht
        have HS := Lib.hid hs
        have HT := Lib.hid ht
        clear hl hm hs ht
        by_cases heq : s = t
        · subst heq
          go_wp2
          refine wp_region_planL [(0, true), (1, true), (2, true), (3, true), (4, true), (5, true), (6, true), (7, true), (8, true)]
            [(9, fun w1 => w1.cell? ⟨b1, off1 + k, none⟩ = some (.string s) ∧ w1.cell? ⟨b2, off2 + k, none⟩ = some (.string s))] (by kernel_rfl) (by kernel_rfl) (by intro c a d v w h; cases d <;> exact h) ?_ ?_
          · exact ⟨⟨c0, d0⟩, trivial⟩
          simp only [planOps, List.getElem?_cons_zero, List.getElem?_cons_succ]
          iterate 9 (first | ((apply plan_pure rfl; (intro w1; go_simp; try go_bits); with_reducible rfl); try simp only [Act.put, List.setIfInBounds_toArray, List.set_cons_zero, List.set_cons_succ]) | ((refine' plan_load 0 rfl (by kernel_rfl) rfl ?_ ?_; rotate_left; (intro w1 hw1; go_simp; with_reducible rfl)); try simp only [Act.put, List.setIfInBounds_toArray, List.set_cons_zero, List.set_cons_succ]))
          refine plan_nil ?_
          go_wp2
          refine ⟨⟨k + 1, by omega, by go_num, fun j hj => ?_, HB.out.drew⟩, by simp [intOf]; omega⟩
          rcases Nat.lt_or_ge j k with h' | h'
          · exact HG.out j h'
          · obtain rfl : j = k := by omega
            rw [HS.out, HT.out]
        · have hne := toList_ne heq
          have HNE := Lib.hid heq
          clear heq
          go_wp2
          refine wp_region_planL [(0, true), (1, true), (2, true), (3, true), (4, true), (5, true), (6, true), (7, true), (8, true)]
            [(9, fun w1 => w1.cell? ⟨b1, off1 + k, none⟩ = some (.string s) ∧ w1.cell? ⟨b2, off2 + k, none⟩ = some (.string t))] (by kernel_rfl) (by kernel_rfl) (by intro c a d v w h; cases d <;> exact h) ?_ ?_
          · exact ⟨⟨c0, d0⟩, trivial⟩
          simp only [planOps, List.getElem?_cons_zero, List.getElem?_cons_succ]
          iterate 9 (first | ((apply plan_pure rfl; (intro w1; go_simp; try go_bits); with_reducible rfl); try simp only [Act.put, List.setIfInBounds_toArray, List.set_cons_zero, List.set_cons_succ]) | ((refine' plan_load 0 rfl (by kernel_rfl) rfl ?_ ?_; rotate_left; (intro w1 hw1; go_simp; with_reducible rfl)); try simp only [Act.put, List.setIfInBounds_toArray, List.set_cons_zero, List.set_cons_succ]))
          refine plan_nil ?_
          go_wp2
          go_ret
          refine ⟨retB (decide_eq_false fun e => HNE.out ?_).symm, HB.out.drew⟩
          have h1 := HS.out
          rw [e, HT.out] at h1
          exact (Option.some.inj h1).symm
      · obtain rfl : k = l.length := by omega
        go_wp2
        go_ret
        refine ⟨retB (decide_eq_true ?_).symm, HB.out⟩
        apply List.ext_getElem?
        intro j
        rcases Nat.lt_or_ge j l.length with h' | h'
        · exact HG.out j h'
        · rw [List.getElem?_eq_none h', List.getElem?_eq_none (by rw [← HLEN.out]; exact h')]
  · have hlb : ((l.length : Int) != (m.length : Int)) = true := by simp; omega
    go_enter Tryz.func30, Tryz.ntmps30
    go_wp2
    go_ret
    exact ⟨retB (decide_eq_false fun e => hlen (by rw [e])).symm, Below.refl _ _⟩
end Go.Proofs.YtmkpglabiikdeaaGreatDoor
