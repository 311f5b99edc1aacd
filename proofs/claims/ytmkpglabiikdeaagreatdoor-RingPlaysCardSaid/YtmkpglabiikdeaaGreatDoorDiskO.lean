/-
  The bounds on a disk are kept by every step; what the fixed calls of layer 10 answer.
-/
import Derived.Test.YtmkpglabiikdeaaGreatDoorDiskN
namespace Go.Proofs.YtmkpglabiikdeaaGreatDoor
open Go.RowKit PH

theorem OkD.keep {D : Dk} (ok : OkD D) (pick : Nat → Bool) : OkD (keepD D pick) :=
  ⟨ok.f0, ok.f1, ok.w0, ok.w1, ok.b0, ok.b1, by show 0 ≤ _; omega, by show (keepK _ _ _ _).length ≤ _; rw [keepK_len]; exact ok.kl, fun x hx => by simp [keepD] at hx⟩
theorem OkD.write {D : Dk} (ok : OkD D) (i : Int) (s : ByteArray) (hw : D.writes < 1000000) (hl : D.wait.length < 1000000) : OkD (writeD D i s) := by
  unfold writeD
  split
  · rename_i h
    split
    · exact ok.burn
    · obtain ⟨k, rfl, hk⟩ := there_in h.1
      have b := ok.burn
      obtain ⟨e1, e2, e3, e4⟩ := burnD_same D
      have hz := ok.w0
      refine ⟨b.f0, b.f1, ?_, ?_, b.b0, b.b1, ?_, b.kl, ?_⟩
      · show 0 ≤ (burnD D).writes + 1; rw [e3]; omega
      · show (burnD D).writes + 1 ≤ _; rw [e3]; omega
      · show ((burnD D).wait ++ [(pad s, (k : Int))]).length ≤ _; rw [List.length_append, e2]; simp; omega
      · show ∀ x ∈ (burnD D).wait ++ [(pad s, (k : Int))], 0 ≤ x.2 ∧ x.2 < ((burnD D).kept.length : Int)
        intro x hx
        rcases List.mem_append.1 hx with h | h
        · exact b.wk x h
        · rw [List.mem_singleton] at h; subst h; rw [e1]; exact ⟨by show (0 : Int) ≤ k; omega, by show (k : Int) < _; omega⟩
  · exact ok
theorem OkD.arm {D : Dk} (ok : OkD D) (n : Int) (hn : n ≤ 9223372036854775807) : OkD (armD D n) := by
  unfold armD
  split
  · exact ⟨by show (-1 : Int) ≤ max n (-1); omega, by show max n (-1) ≤ (9223372036854775807 : Int); omega, ok.w0, ok.w1, ok.b0, ok.b1, ok.wl, ok.kl, ok.wk⟩
  · exact ok
theorem OkD.barrier {D : Dk} (ok : OkD D) (hb : D.barriers < 1000000) : OkD (barrierD D) := by
  unfold barrierD
  split
  · split
    · exact ok.burn
    · refine OkD.keep ?_ _
      have b := ok.burn
      have e4 := (burnD_same D).2.2.2
      have h0 := ok.b0
      exact ⟨b.f0, b.f1, b.w0, b.w1, by show 0 ≤ (burnD D).barriers + 1; rw [e4]; omega, by show (burnD D).barriers + 1 ≤ _; rw [e4]; omega, b.wl, b.kl, b.wk⟩
  · exact ok
theorem OkD.crash {D : Dk} (ok : OkD D) (zs : List Int) : OkD (crashD D zs) := by
  unfold crashD
  split
  · have k := ok.keep (inKeep zs)
    exact ⟨by show (-1 : Int) ≤ -1; omega, by show (-1 : Int) ≤ (9223372036854775807 : Int); omega, k.w0, k.w1, k.b0, k.b1, k.wl, k.kl, k.wk⟩
  · exact ok

theorem pad_size {s : ByteArray} (h : s.size ≤ 128) : (pad s).size = 128 := by
  unfold pad; rw [ByteArray.size_append, zeros_size]; omega
end Go.Proofs.YtmkpglabiikdeaaGreatDoor

