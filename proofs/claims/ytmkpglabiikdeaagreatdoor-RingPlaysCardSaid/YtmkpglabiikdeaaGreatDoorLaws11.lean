/-
  Layer 11: the laws PieceCuts, PieceJoins and PieceMixed, walked.
-/
import Derived.Test.YtmkpglabiikdeaaGreatDoorLaw11
namespace Go.Proofs.YtmkpglabiikdeaaGreatDoor
open Go.RowKit PH

theorem known_cut {s : ByteArray} (hs : s.size = 101) {w : World} {e : Ending} (h : ∃ w0 : World, w0.heap.size = w0.heap.size ∧ CutPost w0 (cutL s 1 1) 0 e w) :
    ∃ b off c d0 d1, e = .returned (.tuple #[.slice (some ⟨b, off, none⟩) 2 c, .int .i64 0]) ∧ w.cell? ⟨b, off + 4, none⟩ = some (.string d0) ∧ w.cell? ⟨b, off + 9, none⟩ = some (.string d1) ∧ d0.size = 100 ∧ d1.size = 1 := by
  obtain ⟨w0, -, a, c, rfl, hsee, hb, -⟩ := h
  have hlen : (cutL s 1 1).length = 2 := by rw [cutL_len]; unfold npc; omega
  obtain ⟨b, off, rfl, -, -, -, -, c0⟩ := hsee.piece (k := 0) (by omega)
  obtain ⟨b', off', e', -, -, -, -, c1⟩ := hsee.piece (k := 1) (by omega)
  cases e'
  rw [hlen]
  have g0 := cutL_get s 1 1 (k := 0) (by unfold npc; omega)
  have g1 := cutL_get s 1 1 (k := 1) (by unfold npc; omega)
  rw [List.getElem?_eq_getElem (by omega)] at g0 g1
  refine ⟨b, off, c, _, _, rfl, c0, c1, ?_, ?_⟩
  · rw [Option.some.inj g0]; simp [chunk, hs]
  · rw [Option.some.inj g1]; simp [chunk, hs]

set_option maxRecDepth 100000 in
set_option maxHeartbeats 800000 in
theorem known_ok (w : World) : Calls Tryz.prog 10 #[] w fun e w' => e = .returned (.bool true) ∧ Below w.heap.size w w' := by
  go_enter Tryz.func10, Tryz.ntmps10
  go_wp2_with (first
    | (at_make; refine wpList_bytes rfl _ _ 72 rfl 5 101 (by omega) (by kernel_rfl) Tryz.underlying72 rfl rfl ?_)
    | (refine wpList_string rfl _ 72 9 rfl 5 101 Tryz.underlying72 Tryz.underlying5 Tryz.underlying9 rfl ?_; intro s hs)
    | (go_at_call 36; refine (cut_ok s 1 1 _ (by omega) (by decide)).mono ?_; rintro e w' hc; have hb := CutPost.below hc; obtain ⟨b, off, c, d0, d1, rfl, c0, c1, z0, z1⟩ := known_cut hs ⟨_, rfl, hc⟩; clear hc)
    | (go_at_call 37; refine (count_ok _ _).mono ?_; rintro e w' ⟨rfl, rfl⟩))
  go_ret
  exact ⟨rfl, (((Below.refl _ _).alloc (Nat.le_refl _) _).trans (hb.mono (by simp)))⟩

/-! The plain law: the pieces of a record make the record. -/
theorem chunk_ok (s : ByteArray) (e q : Int) (hs : s.size ≤ 6400) (hn : nums e q = true) {k : Nat} (hk : k < npc s.size) : okPc ⟨e, q, k, npc s.size, chunk s k⟩ = true := by
  have hz : (chunk s k).size = min s.size (100 * k + 100) - 100 * k := by unfold chunk; rw [ByteArray.size_extract]; omega
  have hf : full ⟨e, q, k, npc s.size, chunk s k⟩ = true := by
    unfold full
    simp only [hz]
    unfold npc at *
    split
    · rw [beq_iff_eq]; omega
    · split
      · rename_i h1 h2; rw [beq_iff_eq] at h2; rw [decide_eq_true_eq]; omega
      · rename_i h1 h2; rw [beq_iff_eq] at h2; rw [Bool.and_eq_true, decide_eq_true_eq, decide_eq_true_eq]; omega
  have h1 : 1 ≤ npc s.size ∧ npc s.size ≤ 64 := by unfold npc; omega
  refine okPc_yes hn ?_ ?_ ?_ ?_ hf <;> dsimp only <;> omega

theorem cutL_whole (s : ByteArray) (e q : Int) (hs : s.size ≤ 6400) (hn : nums e q = true) : whole (cutL s e q) = true := by
  have h0 : 0 < npc s.size := by unfold npc; omega
  refine whole_yes (by rw [cutL_len]; exact h0) ?_
  intro i hi p f hp hf
  rw [cutL_len] at hi
  rw [cutL_get s e q hi] at hp
  rw [cutL_get s e q h0] at hf
  cases hp; cases hf
  unfold good
  rw [chunk_ok s e q hs hn hi, cutL_len]
  simp

theorem cat_cut (s : ByteArray) (e q : Int) : ∀ k, k ≤ npc s.size → cat (cutL s e q) k = s.data.toList.take (100 * k)
  | 0, _ => by simp [cat]
  | k + 1, h => by
    have ih := cat_cut s e q k (by omega)
    rw [cat_succ (cutL_get s e q (by omega)), ih]
    show _ ++ (chunk s k).data.toList = _
    unfold chunk
    rw [ByteArray.data_extract, Array.toList_extract]
    apply List.ext_getElem?
    intro j
    have hz : s.data.toList.length = s.size := rfl
    simp only [List.getElem?_append, List.getElem?_take, List.length_take, hz, List.extract_eq_take_drop, List.getElem?_drop]
    rcases Nat.lt_or_ge j (min (100 * k) s.size) with h1 | h1
    · rw [if_pos h1, if_pos (by omega), if_pos (by omega)]
    · rw [if_neg (by omega)]
      rcases Nat.lt_or_ge s.size (100 * k) with h2 | h2
      · rw [List.getElem?_eq_none (by omega), List.getElem?_eq_none (by omega)]
        simp
      · rw [show 100 * k + (j - min (100 * k) s.size) = j by omega]
        rcases Nat.lt_or_ge j s.size with h3 | h3
        · rcases Nat.lt_or_ge j (100 * (k + 1)) with h4 | h4
          · rw [if_pos (by omega), if_pos (by omega)]
          · rw [if_neg (by omega), if_neg (by omega)]
        · rw [List.getElem?_eq_none (by omega)]
          simp
theorem joined_cut (s : ByteArray) (e q : Int) (hs : s.size ≤ 6400) (hn : nums e q = true) : joined (cutL s e q) = s := by
  unfold joined
  rw [cutL_whole s e q hs hn, if_pos rfl, cutL_len, cat_cut s e q _ (Nat.le_refl _), List.take_of_length_le (by show s.size ≤ _; unfold npc; omega)]
theorem joinErr_cut (s : ByteArray) (e q : Int) (hs : s.size ≤ 6400) (hn : nums e q = true) : joinErr (cutL s e q) = 0 := by
  unfold joinErr; rw [cutL_whole s e q hs hn]; rfl
theorem cutL_data (s : ByteArray) (e q : Int) : ∀ p ∈ cutL s e q, p.data.size ≤ 1000 := by
  intro p hp
  simp only [cutL, chunks, List.map_map, List.mem_map] at hp
  obtain ⟨i, -, rfl⟩ := hp
  show (chunk s i).size ≤ 1000
  unfold chunk; rw [ByteArray.size_extract]; omega
end Go.Proofs.YtmkpglabiikdeaaGreatDoor

