/-
  posthouse/image: a text cut into sectors, walked: the iterator's word.
-/
import Derived.Test.YtmkpglabiikdeaaImgB
import Derived.Test.YtmkpglabiikdeaaDiskI
namespace Go.Proofs.Ytmkpglabiikdeaa
open Go.RowKit PH
attribute [local go_sem] Oper.semAt_some

theorem cut_ok (a : Option Addr) (n c : Nat) (w : World) : Calls Try.prog 85 #[.slice a n c] w fun e w' =>
    e = .returned (.func (.func 111) #[] #[.pointer (some ⟨w.heap.size, 0, none⟩)]) ∧ w' = w.alloc (.cells #[.slice a n c] 96) := by
  go_enter Try.func85, Try.ntmps85
  go_wp2
  go_ret
  exact ⟨rfl, rfl⟩

/-- The first k numbers below m. -/
def firsts (m k : Nat) : List (Fin m) := (List.finRange m).take k
theorem firsts_len {m k : Nat} (h : k ≤ m) : (firsts m k).length = k := by unfold firsts; rw [List.length_take, List.length_finRange]; omega
theorem firsts_succ {m k : Nat} (h : k < m) : firsts m (k + 1) = firsts m k ++ [⟨k, h⟩] := by
  unfold firsts
  rw [List.take_add_one, List.getElem?_eq_getElem (by rw [List.length_finRange]; exact h)]
  simp
theorem firsts_zero (m : Nat) : firsts m 0 = [] := rfl

set_option maxRecDepth 100000 in
set_option maxHeartbeats 800000 in
theorem cut_seq (q g m K cap : Nat) (hK : K = 128 * m) (hm : m ≤ 100000) (hcap : K ≤ cap) :
    SeqSL Try.prog 111 #[.pointer (some ⟨q, 0, none⟩)] (fun i : Fin m => #[.int .i64 (i.1 : Nat), .slice (some ⟨g, i.1 * 128, none⟩) 128 128])
      (pt q (.cells #[.slice (some ⟨g, 0, none⟩) K cap] 96)) (pt q (.cells #[.slice (some ⟨g, 0, none⟩) K cap] 96)) (fun ys => ys = firsts m m) (fun ys => ∃ j, j ≤ m ∧ ys = firsts m j) m := by
  intro y n E J Jx hY W L h0
  have hc0 := cell_blk h0.p1.at 0
  have HKM := Lib.hid hK
  have hKm : (K : Int) = 128 * m := by omega
  clear hK
  refine callsIn_of_wp Try.func111 rfl trivial ?_ rfl
  simp only [Try.ntmps111, List.size_toArray, List.length_cons, List.length_nil, Nat.reduceAdd, Nat.reduceSub, Array.replicate_succ, Array.replicate_zero, List.push_toArray, List.append_toArray, List.nil_append, List.cons_append]
  gi_wp2
  gi_loopw [3] (fun i wr => ∃ k : Nat, k ≤ m ∧ i = .int .i64 k ∧ Sat E wr (J (firsts m k) :: pt q (.cells #[.slice (some ⟨g, 0, none⟩) K cap] 96) :: L)) (fun i _ => m - (intOf i).toNat)
  case atStart => exact ⟨0, by omega, rfl, h0⟩
  case round =>
    obtain ⟨k, hk, rfl, hx⟩ := hrel
    have hc : wr.cell? ⟨q, 0, none⟩ = some (.slice (some ⟨g, 0, none⟩) K cap) := by rw [cell_blk hx.p1.at]; rfl
    by_cases hlt : k < m
    · have h1 : (k : Int) * 128 < (K : Int) := by omega
      have h2 : (k : Int) * 128 + 128 ≤ (cap : Int) := by omega
      have hw' := fun z => hY z (firsts m k) ⟨k, hlt⟩ wr _ (by rw [firsts_len (by omega)]; exact hlt) hx
      obtain ⟨fn, tmps, assign, body, hy, hR⟩ := hw' (n - 1)
      have HY := Lib.hid hy
      have HB : Hid (firsts m k ++ [⟨k, hlt⟩] = firsts m (k + 1)) := Lib.hid (firsts_succ hlt).symm
      clear hy hw' hc0
      gi_wp2
      rw [HY.out]
      go_simp
      refine ⟨fun h => by simp [Fence.wide] at h, hR.mono ?_⟩
      rintro e W' (⟨rfl, h1⟩ | ⟨rfl, h1⟩)
      · clear hc
        rw [HB.out] at h1
        gi_wp2
        refine ⟨⟨k + 1, by omega, by go_num, h1⟩, by simp [intOf]; omega⟩
      · gi_wp2
        refine bodyPost_ret (results_none rfl _ _ _) rfl ?_
        rw [HB.out] at h1
        exact ⟨⟨_, rfl⟩, .inr ⟨_, ⟨k + 1, by omega, rfl⟩, h1⟩⟩
    · obtain rfl : k = m := by omega
      have h1 : ¬ (k : Int) * 128 < (K : Int) := by omega
      gi_wp2
      refine bodyPost_end (results_none rfl _ _ _) rfl ?_
      first
        | exact ⟨⟨_, rfl⟩, .inl hx⟩
        | exact ⟨⟨_, rfl⟩, .inl ⟨firsts k k, rfl, hx⟩⟩
/-- One sector more, if nothing has failed. -/
def stepW (f : Int) (T : ByteArray) {m : Nat} (a : Int × Dk) (i : Fin m) : Int × Dk := if a.1 = 0 then (writeE a.2 (f + (i.1 : Nat)) (chunk T i.1), writeD a.2 (f + (i.1 : Nat)) (chunk T i.1)) else a
def imgWL (D : Dk) (f : Int) (T : ByteArray) {m : Nat} (xs : List (Fin m)) : Int × Dk := xs.foldl (stepW f T) (0, D)
theorem imgWL_snoc (D : Dk) (f : Int) (T : ByteArray) {m : Nat} (xs : List (Fin m)) (x : Fin m) : imgWL D f T (xs ++ [x]) = stepW f T (imgWL D f T xs) x := by simp [imgWL]
theorem imgWL_firsts (D : Dk) (f : Int) (T : ByteArray) {m : Nat} : ∀ k, k ≤ m → imgWL D f T (firsts m k) = imgW D f T k
  | 0, _ => rfl
  | k + 1, h => by
    rw [firsts_succ (by omega), imgWL_snoc, imgWL_firsts D f T k (by omega)]
    rfl
theorem foldW_ok (f : Int) (T : ByteArray) {m : Nat} : ∀ (xs : List (Fin m)) (a : Int × Dk), OkD a.2 → a.2.writes + xs.length < 1000000 → a.2.wait.length + xs.length < 1000000 → OkD (xs.foldl (stepW f T) a).2
  | [], _, h, _, _ => h
  | x :: xs, a, h, h1, h2 => by
    rw [List.length_cons] at h1 h2
    rw [List.foldl_cons]
    obtain ⟨b2, c2, d2, e2⟩ := writeD_counts a.2 (f + (x.1 : Nat)) (chunk T x.1)
    unfold stepW
    split
    · exact foldW_ok f T xs _ (h.write _ _ (by omega) (by omega)) (by show (writeD _ _ _).writes + _ < _; omega) (by show (writeD _ _ _).wait.length + _ < _; omega)
    · exact foldW_ok f T xs a h (by omega) (by omega)
theorem imgWL_ok {D : Dk} (ok : OkD D) (hw : D.writes ≤ 1000) (hl : D.wait.length ≤ 1000) (f : Int) (T : ByteArray) {m : Nat} (xs : List (Fin m)) (hx : xs.length ≤ 1000) : OkD (imgWL D f T xs).2 :=
  foldW_ok f T xs (0, D) ok (by show D.writes + _ < _; omega) (by show D.wait.length + _ < _; omega)
end Go.Proofs.Ytmkpglabiikdeaa
