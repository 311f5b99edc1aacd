/-
  Layer 11: the reference's Cut and Same, and the laws PieceCuts, PieceJoins and PieceMixed, walked.
-/
import Derived.Test.YtmkpglabiikdeaaGreatDoorCut
namespace Go.Proofs.YtmkpglabiikdeaaGreatDoor
open Go.RowKit PH

theorem cutL_len (s : ByteArray) (e q : Int) : (cutL s e q).length = npc s.size := by simp [cutL, chunks_len]
theorem cutL_get (s : ByteArray) (e q : Int) {k : Nat} (hk : k < npc s.size) : (cutL s e q)[k]? = some ⟨e, q, k, npc s.size, chunk s k⟩ := by
  simp [cutL, chunks, pcOf, hk]

theorem CutPost.below {w w' : World} {l : List Pc} {err : Int} {e : Ending} (h : CutPost w l err e w') : Below w.heap.size w w' := let ⟨_, _, _, _, h, _⟩ := h; h
/-- What the reference's Cut hands back. -/
def RefCutPost (w : World) (l : List Pc) (e : Ending) (w' : World) : Prop :=
  ∃ a c, e = .returned (.slice a l.length c) ∧ Sees w' a (pcs l) ∧ Below w.heap.size w w'

set_option maxRecDepth 100000 in
set_option maxHeartbeats 800000 in
theorem refCut_ok (s : ByteArray) (ep sq : Int) (w : World) (hs : s.size ≤ 6400) : Calls Tryz.prog 72 #[.string s, .int .i64 ep, .int .i64 sq] w (RefCutPost w (cutL s ep sq)) := by
  obtain ⟨n, hn⟩ : ∃ n, s.size = n := ⟨_, rfl⟩
  have hpc : npc s.size ≤ 64 ∧ 1 ≤ npc s.size := by unfold npc; omega
  obtain ⟨m, hm⟩ : ∃ m, npc s.size = m := ⟨_, rfl⟩
  rw [hm] at hpc
  have HM := Lib.hid hm
  rw [hn] at hs
  have hm2 : m = max 1 ((n + 99) / 100) := by rw [← hm, hn]; rfl
  clear hm
  have HM2 := Lib.hid hm2
  by_cases hn0 : n = 0
  · have hm1 : (1 : Int) = (m : Int) := by omega
    clear hm2
    go_enter Tryz.func72, Tryz.ntmps72
    go_wp2
    rw [hm1]
    go_loopw [8, 9] (fun v i wr => ∃ k : Nat, k ≤ m ∧ i = .int .i64 k ∧ Sat w wr [row 23 5 v k (pcs ((cutL s ep sq).take k)), heapIs w]) (fun _ i _ => m - (intOf i).toNat)
    case atStart => exact ⟨0, by omega, rfl, (Sat.start w).rowNil _ _⟩
    case round =>
      obtain ⟨k, hk, rfl, hx⟩ := hrel
      have HX := Lib.hid hx
      clear hx
      by_cases hlt : k < m
      · have h100 : 100 * k ≤ n := by have := HM2.out; omega
        have he : s.extract (100 * k) (min 0 (100 * (k : Int) + 100)).toNat = chunk s k := by unfold chunk; rw [hn]; congr 1; omega
        have HE := Lib.hid he
        clear he
        go_wp2_with (at_builtin; refine wpList_app1 rfl _ _ 25 rfl HX.out 48 (.agg #[.int .i64 0, .int .i64 0, .int .i64 0, .int .i64 0, .string ByteArray.empty]) (by kernel_rfl) Tryz.underlying25 rfl rfl [.int .i64 ep, .int .i64 sq, .int .i64 k, .int .i64 m, .string (s.extract (100 * k) (min 0 (100 * (k : Int) + 100)).toNat)] rfl rfl (by simp [Value.oneCell']) (by omega) (by omega) ?_; intro v' w3 hs3)
        refine ⟨⟨k + 1, by omega, by go_num, ?_⟩, by simp [intOf]; omega⟩
        rw [List.take_add_one, cutL_get s ep sq (by rw [HM.out]; exact hlt), HM.out]
        rw [HE.out] at hs3
        simpa [pcs, Pc.cells] using hs3
      · have hkm : k = m := by omega
        have HKM := Lib.hid hkm
        clear hkm
        go_wp2
        go_ret
        obtain ⟨g, cap, hv, hcap, _, hg, hcs⟩ := HX.out.rowSees (by omega)
        subst hv
        refine ⟨some ⟨g, 0, none⟩, cap, ?_, ?_, HX.out.p1.below⟩
        · rw [cutL_len, HM.out, ← HKM.out]; rfl
        · intro j u hj
          refine ⟨g, 0, rfl, hcs j u ?_⟩
          rw [HKM.out, ← HM.out, ← cutL_len s ep sq, List.take_length]
          exact hj
  · have hq : ((n : Int) + 99) / 100 = (m : Int) := by omega
    have hmb : (((n : Int) + 99) / 100 == 0) = false := by simp; omega
    clear hm2
    go_enter Tryz.func72, Tryz.ntmps72
    go_wp2
    rw [hq]
    simp only [show ((m : Int) == 0) = false from by simp; omega]
    go_loopw [8, 9] (fun v i wr => ∃ k : Nat, k ≤ m ∧ i = .int .i64 k ∧ Sat w wr [row 23 5 v k (pcs ((cutL s ep sq).take k)), heapIs w]) (fun _ i _ => m - (intOf i).toNat)
    case atStart => exact ⟨0, by omega, rfl, (Sat.start w).rowNil _ _⟩
    case round =>
      obtain ⟨k, hk, rfl, hx⟩ := hrel
      have HX := Lib.hid hx
      clear hx
      by_cases hlt : k < m
      · have h100 : 100 * k ≤ n := by have := HM2.out; omega
        have he : s.extract (100 * k) (min (n : Int) (100 * (k : Int) + 100)).toNat = chunk s k := by unfold chunk; rw [hn]; congr 1; omega
        have HE := Lib.hid he
        clear he
        go_wp2_with (at_builtin; refine wpList_app1 rfl _ _ 25 rfl HX.out 48 (.agg #[.int .i64 0, .int .i64 0, .int .i64 0, .int .i64 0, .string ByteArray.empty]) (by kernel_rfl) Tryz.underlying25 rfl rfl [.int .i64 ep, .int .i64 sq, .int .i64 k, .int .i64 m, .string (s.extract (100 * k) (min (n : Int) (100 * (k : Int) + 100)).toNat)] rfl rfl (by simp [Value.oneCell']) (by omega) (by omega) ?_; intro v' w3 hs3)
        refine ⟨⟨k + 1, by omega, by go_num, ?_⟩, by simp [intOf]; omega⟩
        rw [List.take_add_one, cutL_get s ep sq (by rw [HM.out]; exact hlt), HM.out]
        rw [HE.out] at hs3
        simpa [pcs, Pc.cells] using hs3
      · have hkm : k = m := by omega
        have HKM := Lib.hid hkm
        clear hkm
        go_wp2
        go_ret
        obtain ⟨g, cap, hv, hcap, _, hg, hcs⟩ := HX.out.rowSees (by omega)
        subst hv
        refine ⟨some ⟨g, 0, none⟩, cap, ?_, ?_, HX.out.p1.below⟩
        · rw [cutL_len, HM.out, ← HKM.out]; rfl
        · intro j u hj
          refine ⟨g, 0, rfl, hcs j u ?_⟩
          rw [HKM.out, ← HM.out, ← cutL_len s ep sq, List.take_length]
          exact hj

deriving instance DecidableEq for Pc
theorem bytes_toList {a b : ByteArray} : a.toList = b.toList ↔ a = b :=
  ⟨fun h => by rw [ByteArray.toList_eq, ByteArray.toList_eq] at h; exact ByteArray.ext (Array.ext' h), fun h => h ▸ rfl⟩

end Go.Proofs.YtmkpglabiikdeaaGreatDoor

