/-
  A disk behind some steps: bounds that are kept. Plain laws.
-/
import Derived.Test.YtmkpglabiikdeaaGreatDoorDiskO
import Derived.Test.YtmkpglabiikdeaaGreatDoorRefC
import Derived.Test.YtmkpglabiikdeaaGreatDoorPieceBase
namespace Go.Proofs.YtmkpglabiikdeaaGreatDoor
open Go.RowKit PH

theorem Sees.kept {w w' : World} {a : Option Addr} {cs : List Value} (h : Sees w a cs) (hb : Below w.heap.size w w') : Sees w' a cs := fun j u hj => by
  obtain ⟨b, off, rfl, hc⟩ := h j u hj
  exact ⟨b, off, rfl, PH.kept hb hc⟩
theorem SeesI.kept {w w' : World} {a : Option Addr} {zs : List Int} (h : SeesI w a zs) (hb : Below w.heap.size w w') : SeesI w' a zs := fun j u hj => by
  obtain ⟨b, off, rfl, hc⟩ := h j u hj
  exact ⟨b, off, rfl, PH.kept hb hc⟩

structure RunP (n : Nat) (D : Dk) (k : Nat) : Prop where
  ok : OkD D
  len : D.kept.length = n
  w : D.writes ≤ k
  b : D.barriers ≤ k
  wl : D.wait.length ≤ k
  sk : ∀ s ∈ D.kept, s.size ≤ 128
  sw : ∀ x ∈ D.wait, x.1.size ≤ 128
theorem RunP.read {n k : Nat} {D : Dk} (r : RunP n D k) (i : Int) : (readV D i).size ≤ 9223372036854775807 := by
  unfold readV lastAt
  cases hf : D.wait.reverse.find? fun x => x.2 == i with
  | some x => have := r.sw x (List.mem_reverse.1 (List.mem_of_find?_eq_some hf)); dsimp only; omega
  | none =>
    dsimp only
    rw [List.getD_eq_getElem?_getD]
    cases hk : D.kept[i.toNat]? with
    | some s => have := r.sk s (List.mem_of_getElem? hk); simp only [Option.getD_some]; omega
    | none => simp only [Option.getD_none]; decide
theorem keepK_mem (pick : Nat → Bool) (kept : List ByteArray) (wait : List (ByteArray × Int)) (hk : ∀ s ∈ kept, s.size ≤ 128) (hw : ∀ x ∈ wait, x.1.size ≤ 128) : ∀ n, ∀ s ∈ keepK pick kept wait n, s.size ≤ 128
  | 0 => hk
  | n + 1 => by
    have ih := keepK_mem pick kept wait hk hw n
    unfold keepK
    cases hx : wait[n]? with
    | none => exact ih
    | some x =>
      dsimp only
      split
      · intro s hs
        rcases List.mem_or_eq_of_mem_set hs with h | rfl
        · exact ih s h
        · exact hw x (List.mem_of_getElem? hx)
      · exact ih
theorem RunP.mono {n k : Nat} {D : Dk} (r : RunP n D k) : RunP n D (k + 1) := ⟨r.ok, r.len, by have := r.w; omega, by have := r.b; omega, by have := r.wl; omega, r.sk, r.sw⟩
theorem RunP.write {n k : Nat} {D : Dk} (r : RunP n D k) (hk : k ≤ 100000) (i : Int) (s : ByteArray) : RunP n (writeD D i s) (k + 1) ∧ (writeD D i s).barriers = D.barriers := by
  have hw := r.w
  have hb := r.b
  have hl := r.wl
  obtain ⟨e1, e2, e3, e4⟩ := burnD_same D
  have ok := r.ok.write i s (by omega) (by omega)
  unfold writeD at ok ⊢
  split at ok
  · rename_i c
    rw [if_pos c]
    split at ok
    · rename_i c2
      rw [if_pos c2]
      exact ⟨⟨ok, by rw [e1]; exact r.len, by omega, by omega, by rw [e2]; omega, by rw [e1]; exact r.sk, by rw [e2]; exact r.sw⟩, e4⟩
    · rename_i c2
      rw [if_neg c2]
      refine ⟨⟨ok, by simp only [wroteD]; rw [e1]; exact r.len, by simp only [wroteD, e3]; omega, by simp only [wroteD, e4]; omega, by simp only [wroteD, e2, List.length_append, List.length_singleton]; omega, by simp only [wroteD]; rw [e1]; exact r.sk, ?_⟩, by simp only [wroteD]; exact e4⟩
      simp only [wroteD, e2]
      intro x hx
      rcases List.mem_append.1 hx with h | h
      · exact r.sw x h
      · rw [List.mem_singleton] at h; subst h
        have := pad_size (s := s) (by have := c.2; omega)
        dsimp only; omega
  · rename_i c
    rw [if_neg c]
    exact ⟨r.mono, rfl⟩
theorem RunP.barrier {n k : Nat} {D : Dk} (r : RunP n D k) (hk : k ≤ 100001) (hb : D.barriers < k) : RunP n (barrierD D) k := by
  have hw := r.w
  have hl := r.wl
  obtain ⟨e1, e2, e3, e4⟩ := burnD_same D
  have ok := r.ok.barrier (by omega)
  unfold barrierD at ok ⊢
  split at ok
  · rename_i c
    rw [if_pos c]
    split at ok
    · rename_i c2
      rw [if_pos c2]
      exact ⟨ok, by rw [e1]; exact r.len, by omega, by omega, by rw [e2]; omega, by rw [e1]; exact r.sk, by rw [e2]; exact r.sw⟩
    · rename_i c2
      rw [if_neg c2]
      refine ⟨ok, by simp only [keepD, barredD, keepK_len]; rw [e1]; exact r.len, by simp only [keepD, barredD, e3]; omega, by simp only [keepD, barredD, e4]; omega, by simp only [keepD, List.length_nil]; omega, ?_, by simp only [keepD]; intro x hx; cases hx⟩
      simp only [keepD, barredD]
      exact keepK_mem _ _ _ (by rw [e1]; exact r.sk) (by rw [e2]; exact r.sw) _
  · rename_i c
    rw [if_neg c]
    exact r
theorem RunP.crash {n k : Nat} {D : Dk} (r : RunP n D k) (zs : List Int) : RunP n (crashD D zs) k := by
  have hw := r.w
  have hb := r.b
  have ok := r.ok.crash zs
  unfold crashD at ok ⊢
  split at ok
  · rename_i c
    rw [if_pos c]
    refine ⟨ok, by simp only [keepD, keepK_len]; exact r.len, by simp only [keepD]; omega, by simp only [keepD]; omega, by simp only [keepD, List.length_nil]; omega, ?_, by simp only [keepD]; intro x hx; cases hx⟩
    simp only [keepD]
    exact keepK_mem _ _ _ r.sk r.sw _
  · rename_i c
    rw [if_neg c]
    exact r
theorem RunP.arm {n k : Nat} {D : Dk} (r : RunP n D k) (i : Int) (hi : i ≤ 9223372036854775807) : RunP n (armD D i) k := by
  have ok := r.ok.arm i hi
  unfold armD at ok ⊢
  split at ok
  · rename_i c
    rw [if_pos c]
    exact ⟨ok, r.len, r.w, r.b, r.wl, r.sk, r.sw⟩
  · rename_i c
    rw [if_neg c]
    exact r
theorem RunP.zero {n : Nat} (h2 : n ≤ 65536) : RunP n (newD n) 0 := ⟨newD_ok h2, List.length_replicate, by show (0 : Int) ≤ _; omega, by show (0 : Int) ≤ _; omega, Nat.le_refl _, fun s hs => by rw [List.eq_of_mem_replicate hs, zeros_size]; omega, fun x hx => by cases hx⟩
theorem RunP.made {n : Nat} {D : Dk} {k : Nat} (h : RunP n D k) (hn : 1 ≤ n) : madeB D = true := by
  unfold madeB
  rw [h.len]
  exact decide_eq_true (by omega)
end Go.Proofs.YtmkpglabiikdeaaGreatDoor
