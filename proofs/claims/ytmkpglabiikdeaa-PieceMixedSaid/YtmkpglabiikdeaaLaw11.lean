/-
  Layer 11: the reference's Cut and Same, and the laws PieceCuts, PieceJoins and PieceMixed, walked.
-/
import Derived.Test.YtmkpglabiikdeaaCut
namespace Go.Proofs.Ytmkpglabiikdeaa
open Go.RowKit PH

theorem cutL_len (s : ByteArray) (e q : Int) : (cutL s e q).length = npc s.size := by simp [cutL, chunks_len]
theorem cutL_get (s : ByteArray) (e q : Int) {k : Nat} (hk : k < npc s.size) : (cutL s e q)[k]? = some ⟨e, q, k, npc s.size, chunk s k⟩ := by
  simp [cutL, chunks, pcOf, hk]

theorem CutPost.below {w w' : World} {l : List Pc} {err : Int} {e : Ending} (h : CutPost w l err e w') : Below w.heap.size w w' := let ⟨_, _, _, _, h, _⟩ := h; h
/-- What the reference's Cut hands back. -/
def RefCutPost (w : World) (l : List Pc) (e : Ending) (w' : World) : Prop :=
  ∃ a c, e = .returned (.slice a l.length c) ∧ Sees w' a (pcs l) ∧ Below w.heap.size w w'

set_option maxRecDepth 100000 in
set_option maxHeartbeats 800000 in
theorem refCut_ok (s : ByteArray) (ep sq : Int) (w : World) (hs : s.size ≤ 6400) : Calls Try.prog 23 #[.string s, .int .i64 ep, .int .i64 sq] w (RefCutPost w (cutL s ep sq)) := by
  obtain ⟨n, hn⟩ : ∃ n, s.size = n := ⟨_, rfl⟩
  have hpc : npc s.size ≤ 64 ∧ 1 ≤ npc s.size := by unfold npc; omega
  obtain ⟨m, hm⟩ : ∃ m, npc s.size = m := ⟨_, rfl⟩
  rw [hm] at hpc
  have HM := Lib.hid hm
  rw [hn] at hs
  have hm2 : m = max 1 ((n + 99) / 100) := by rw [← hm, hn]; rfl
  clear hm
  have HM2 := Lib.hid hm2
  by_cases hn0 : n = 0
  · have hm1 : (1 : Int) = (m : Int) := by omega
    clear hm2
    go_enter Try.func23, Try.ntmps23
    go_wp2
    rw [hm1]
    go_loopw [8, 9] (fun v i wr => ∃ k : Nat, k ≤ m ∧ i = .int .i64 k ∧ Sat w wr [row 39 5 v k (pcs ((cutL s ep sq).take k)), heapIs w]) (fun _ i _ => m - (intOf i).toNat)
    case atStart => exact ⟨0, by omega, rfl, (Sat.start w).rowNil _ _⟩
    case round =>
      obtain ⟨k, hk, rfl, hx⟩ := hrel
      have HX := Lib.hid hx
      clear hx
      by_cases hlt : k < m
      · have h100 : 100 * k ≤ n := by have := HM2.out; omega
        have he : s.extract (100 * k) (min 0 (100 * (k : Int) + 100)).toNat = chunk s k := by unfold chunk; rw [hn]; congr 1; omega
        have HE := Lib.hid he
        clear he
        go_wp2_with (at_builtin; refine wpList_app1 rfl _ _ 23 rfl HX.out 48 (.agg #[.int .i64 0, .int .i64 0, .int .i64 0, .int .i64 0, .string ByteArray.empty]) (by kernel_rfl) Try.underlying23 rfl rfl [.int .i64 ep, .int .i64 sq, .int .i64 k, .int .i64 m, .string (s.extract (100 * k) (min 0 (100 * (k : Int) + 100)).toNat)] rfl rfl (by simp [Value.oneCell']) (by omega) (by omega) ?_; intro v' w3 hs3)
        refine ⟨⟨k + 1, by omega, by go_num, ?_⟩, by simp [intOf]; omega⟩
        rw [List.take_add_one, cutL_get s ep sq (by rw [HM.out]; exact hlt), HM.out]
        rw [HE.out] at hs3
        simpa [pcs, Pc.cells] using hs3
      · have hkm : k = m := by omega
        have HKM := Lib.hid hkm
        clear hkm
        go_wp2
        go_ret
        obtain ⟨g, cap, hv, hcap, _, hg, hcs⟩ := HX.out.rowSees (by omega)
        subst hv
        refine ⟨some ⟨g, 0, none⟩, cap, ?_, ?_, HX.out.p1.below⟩
        · rw [cutL_len, HM.out, ← HKM.out]; rfl
        · intro j u hj
          refine ⟨g, 0, rfl, hcs j u ?_⟩
          rw [HKM.out, ← HM.out, ← cutL_len s ep sq, List.take_length]
          exact hj
  · have hq : ((n : Int) + 99) / 100 = (m : Int) := by omega
    have hmb : (((n : Int) + 99) / 100 == 0) = false := by simp; omega
    clear hm2
    go_enter Try.func23, Try.ntmps23
    go_wp2
    rw [hq]
    simp only [show ((m : Int) == 0) = false from by simp; omega]
    go_loopw [8, 9] (fun v i wr => ∃ k : Nat, k ≤ m ∧ i = .int .i64 k ∧ Sat w wr [row 39 5 v k (pcs ((cutL s ep sq).take k)), heapIs w]) (fun _ i _ => m - (intOf i).toNat)
    case atStart => exact ⟨0, by omega, rfl, (Sat.start w).rowNil _ _⟩
    case round =>
      obtain ⟨k, hk, rfl, hx⟩ := hrel
      have HX := Lib.hid hx
      clear hx
      by_cases hlt : k < m
      · have h100 : 100 * k ≤ n := by have := HM2.out; omega
        have he : s.extract (100 * k) (min (n : Int) (100 * (k : Int) + 100)).toNat = chunk s k := by unfold chunk; rw [hn]; congr 1; omega
        have HE := Lib.hid he
        clear he
        go_wp2_with (at_builtin; refine wpList_app1 rfl _ _ 23 rfl HX.out 48 (.agg #[.int .i64 0, .int .i64 0, .int .i64 0, .int .i64 0, .string ByteArray.empty]) (by kernel_rfl) Try.underlying23 rfl rfl [.int .i64 ep, .int .i64 sq, .int .i64 k, .int .i64 m, .string (s.extract (100 * k) (min (n : Int) (100 * (k : Int) + 100)).toNat)] rfl rfl (by simp [Value.oneCell']) (by omega) (by omega) ?_; intro v' w3 hs3)
        refine ⟨⟨k + 1, by omega, by go_num, ?_⟩, by simp [intOf]; omega⟩
        rw [List.take_add_one, cutL_get s ep sq (by rw [HM.out]; exact hlt), HM.out]
        rw [HE.out] at hs3
        simpa [pcs, Pc.cells] using hs3
      · have hkm : k = m := by omega
        have HKM := Lib.hid hkm
        clear hkm
        go_wp2
        go_ret
        obtain ⟨g, cap, hv, hcap, _, hg, hcs⟩ := HX.out.rowSees (by omega)
        subst hv
        refine ⟨some ⟨g, 0, none⟩, cap, ?_, ?_, HX.out.p1.below⟩
        · rw [cutL_len, HM.out, ← HKM.out]; rfl
        · intro j u hj
          refine ⟨g, 0, rfl, hcs j u ?_⟩
          rw [HKM.out, ← HM.out, ← cutL_len s ep sq, List.take_length]
          exact hj

deriving instance DecidableEq for Pc
theorem bytes_toList {a b : ByteArray} : a.toList = b.toList ↔ a = b :=
  ⟨fun h => by rw [ByteArray.toList_eq, ByteArray.toList_eq] at h; exact ByteArray.ext (Array.ext' h), fun h => h ▸ rfl⟩

set_option maxRecDepth 100000 in
set_option maxHeartbeats 800000 in
theorem refSame_ok {w : World} {a b : Option Addr} {c d : Nat} {l m : List Pc} (hl : Sees w a (pcs l)) (hm : Sees w b (pcs m)) (hn : l.length ≤ 9223372036854775806) (hn2 : m.length ≤ 9223372036854775806) :
    Calls Try.prog 22 #[.slice a l.length c, .slice b m.length d] w fun e w' => e = .returned (.bool (decide (l = m))) ∧ Below w.heap.size w w' := by
  by_cases hlen : l.length = m.length
  · have hlb : ((l.length : Int) != (m.length : Int)) = false := by simp [hlen]
    have HLEN := Lib.hid hlen
    clear hlen
    go_enter Try.func22, Try.ntmps22
    go_wp2
    go_loopw [5] (fun i wr => ∃ k : Nat, k ≤ l.length ∧ i = .int .i64 k ∧ (∀ j, j < k → l[j]? = m[j]?) ∧ Below w.heap.size w wr) (fun i _ => l.length - (intOf i).toNat)
    case atStart => exact ⟨0, by omega, rfl, fun j hj => by omega, Below.refl _ _⟩
    case round =>
      obtain ⟨k, hk, rfl, hg, hb⟩ := hrel
      have HG := Lib.hid hg
      have HB := Lib.hid hb
      clear hg hb
      by_cases hlt : k < l.length
      · have hlt2 : k < m.length := by rw [← HLEN.out]; exact hlt
        obtain ⟨b1, off1, rfl, c0, c1, c2, c3, c4⟩ := (hl.of_below HB.out).piece hlt
        obtain ⟨b2, off2, rfl, d0, d1, d2, d3, d4⟩ := (hm.of_below HB.out).piece hlt2
        clear hl hm
        obtain ⟨⟨ep, sq, pt, ps, dt⟩, hp⟩ : ∃ p, l[k] = p := ⟨_, rfl⟩
        obtain ⟨⟨ep2, sq2, pt2, ps2, dt2⟩, hf⟩ : ∃ p, m[k] = p := ⟨_, rfl⟩
        rw [hp] at c0 c1 c2 c3 c4
        rw [hf] at d0 d1 d2 d3 d4
        have HP := Lib.hid hp
        have HF := Lib.hid hf
        clear hp hf
        dsimp only at c0 c1 c2 c3 c4 d0 d1 d2 d3 d4
        go_wp2
        refine wp_region_planL [(0, true), (1, true), (2, true), (3, true), (4, true), (5, true), (6, true), (7, true), (8, true)]
          [(9, fun w1 => w1.cell? ⟨b1, off1 + k * 5, none⟩ = some (.int .i64 ep) ∧ w1.cell? ⟨b1, off1 + k * 5 + 1, none⟩ = some (.int .i64 sq) ∧ w1.cell? ⟨b1, off1 + k * 5 + 2, none⟩ = some (.int .i64 pt) ∧ w1.cell? ⟨b1, off1 + k * 5 + 3, none⟩ = some (.int .i64 ps) ∧ w1.cell? ⟨b1, off1 + k * 5 + 4, none⟩ = some (.string dt) ∧
            w1.cell? ⟨b2, off2 + k * 5, none⟩ = some (.int .i64 ep2) ∧ w1.cell? ⟨b2, off2 + k * 5 + 1, none⟩ = some (.int .i64 sq2) ∧ w1.cell? ⟨b2, off2 + k * 5 + 2, none⟩ = some (.int .i64 pt2) ∧ w1.cell? ⟨b2, off2 + k * 5 + 3, none⟩ = some (.int .i64 ps2) ∧ w1.cell? ⟨b2, off2 + k * 5 + 4, none⟩ = some (.string dt2))] (by kernel_rfl) (by kernel_rfl) (by intro c a d v w h; cases d <;> exact h) ?_ ?_
        · exact ⟨⟨c0, c1, c2, c3, c4, d0, d1, d2, d3, d4⟩, trivial⟩
        simp only [planOps, List.getElem?_cons_zero, List.getElem?_cons_succ]
        iterate 8 (first | (apply plan_skip rfl; simp only [Act.put, List.setIfInBounds_toArray, List.set_cons_zero, List.set_cons_succ]) | ((apply plan_pure rfl; (intro w1; go_simp; try go_bits); with_reducible rfl); simp only [Act.put, List.setIfInBounds_toArray, List.set_cons_zero, List.set_cons_succ]) | ((refine' plan_load 0 rfl (by kernel_rfl) rfl ?_ ?_; rotate_left; (intro w1 hw1; go_simp; with_reducible rfl)); simp only [Act.put, List.setIfInBounds_toArray, List.set_cons_zero, List.set_cons_succ]))
        refine plan_pure (v := .bool (!decide ((⟨ep, sq, pt, ps, dt⟩ : Pc) = ⟨ep2, sq2, pt2, ps2, dt2⟩))) rfl (fun w1 => ?_) ?_
        · go_simp
          by_cases a1 : ep = ep2 <;> by_cases a2 : sq = sq2 <;> by_cases a3 : pt = pt2 <;> by_cases a4 : ps = ps2 <;> by_cases a5 : dt = dt2 <;> simp_all [bytes_toList]
        simp only [Act.put, List.setIfInBounds_toArray, List.set_cons_zero, List.set_cons_succ]
        refine plan_nil ?_
        have h1 : l[k]? = some ⟨ep, sq, pt, ps, dt⟩ := by rw [List.getElem?_eq_getElem hlt, HP.out]
        have h2 : m[k]? = some ⟨ep2, sq2, pt2, ps2, dt2⟩ := by rw [List.getElem?_eq_getElem hlt2, HF.out]
        have H1 := Lib.hid h1
        have H2 := Lib.hid h2
        clear h1 h2
        by_cases heq : (⟨ep, sq, pt, ps, dt⟩ : Pc) = ⟨ep2, sq2, pt2, ps2, dt2⟩
        · rw [decide_eq_true heq]
          have HEQ := Lib.hid heq
          clear heq
          go_wp2
          refine ⟨⟨k + 1, by omega, by go_num, fun j hj => ?_, HB.out.drew⟩, by simp [intOf]; omega⟩
          rcases Nat.lt_or_ge j k with h' | h'
          · exact HG.out j h'
          · obtain rfl : j = k := by omega
            rw [H1.out, H2.out, HEQ.out]
        · rw [decide_eq_false heq]
          have HEQ := Lib.hid heq
          clear heq
          go_wp2
          go_ret
          exact ⟨retB (by symm; rw [decide_eq_false_iff_not]; rintro rfl; have := H1.out.symm.trans H2.out; exact HEQ.out (Option.some.inj this)), HB.out.drew⟩
      · go_wp2
        go_ret
        exact ⟨retB (by
          symm; rw [decide_eq_true_eq]
          apply List.ext_getElem?; intro j
          rcases Nat.lt_or_ge j k with h' | h'
          · exact HG.out j h'
          · rw [List.getElem?_eq_none (by omega), List.getElem?_eq_none (by rw [← HLEN.out]; omega)]), HB.out⟩
  · have hlb : ((l.length : Int) != (m.length : Int)) = true := by simp; omega
    go_enter Try.func22, Try.ntmps22
    go_wp2
    go_ret
    exact ⟨retB (by symm; rw [decide_eq_false_iff_not]; rintro rfl; exact hlen rfl), Below.refl _ _⟩
end Go.Proofs.Ytmkpglabiikdeaa
