/-
  Texts on a disk: what Write leaves, wherever the disk dies, and what is read then. Plain laws, no program in sight.
-/
import Derived.Test.YtmkpglabiikdeaaImgP
import Derived.Test.YtmkpglabiikdeaaRefP
namespace Go.Proofs.Ytmkpglabiikdeaa
open Go.RowKit PH

/-- The first k sectors of a text, as they are written from a place on. -/
def secL (T : ByteArray) (a : Nat) (k : Nat) : List (ByteArray × Int) := (List.range k).map fun i => (chunk T i, ((a + i : Nat) : Int))
theorem secL_succ (T : ByteArray) (a k : Nat) : secL T a (k + 1) = secL T a k ++ [(chunk T k, ((a + k : Nat) : Int))] := by simp [secL, List.range_succ]
theorem secL_len (T : ByteArray) (a k : Nat) : (secL T a k).length = k := by simp [secL]
theorem secL_get (T : ByteArray) (a : Nat) {k i : Nat} (h : i < k) : (secL T a k)[i]? = some (chunk T i, ((a + i : Nat) : Int)) := by simp [secL, h]
theorem there_at {D : Dk} (al : aliveE D = 0) {i : Nat} (h : i < D.kept.length) : thereE D i = 0 := by
  unfold thereE
  rw [if_pos al, if_neg (by omega)]
theorem alive_of {D D' : Dk} (h1 : D'.kept = D.kept) (h2 : D'.dead = D.dead) : aliveE D' = aliveE D := by
  unfold aliveE madeB
  rw [h1, h2]
/-- Behind k sectors, if the fuse lasts. -/
def wroteK (D : Dk) (a : Nat) (T : ByteArray) (k : Nat) : Dk := { D with fuse := max (D.fuse - k) (-1), wait := D.wait ++ secL T a k, writes := D.writes + k }
theorem imgW_live {D : Dk} (al : aliveE D = 0) (f0 : -1 ≤ D.fuse) {a m : Nat} {T : ByteArray} (hT : T.size = 128 * m) (ha : a + m ≤ D.kept.length) : ∀ k : Nat, k ≤ m → (D.fuse = -1 ∨ (k : Int) ≤ D.fuse) → imgW D a T k = (0, wroteK D a T k)
  | 0, _, _ => by
    unfold imgW wroteK secL
    simp
    rw [Int.max_eq_left f0]
  | k + 1, hk, hf => by
    have ih := imgW_live al f0 hT ha k (by omega) (by omega)
    unfold imgW
    rw [ih, if_pos rfl]
    dsimp only
    have al2 : aliveE (wroteK D a T k) = 0 := (alive_of (D := D) rfl rfl).trans al
    have th : thereE (wroteK D a T k) ((a : Int) + k) = 0 := by
      have := there_at al2 (i := a + k) (by show a + k < D.kept.length; omega)
      rw [← this]; simp
    have hcs := chunk_size (i := k) hT (by omega)
    have hfz : (wroteK D a T k).fuse ≠ 0 := by
      show max (D.fuse - k) (-1) ≠ 0
      omega
    have we : writeE (wroteK D a T k) ((a : Int) + k) (chunk T k) = 0 := by
      unfold writeE burnE
      rw [if_pos th, if_neg (by omega), if_neg hfz]
    have wd : writeD (wroteK D a T k) ((a : Int) + k) (chunk T k) = wroteK D a T (k + 1) := by
      unfold writeD
      rw [if_pos ⟨th, by omega⟩, if_neg hfz]
      unfold wroteD burnD
      rw [if_neg hfz, pad_full hcs]
      unfold wroteK
      rw [secL_succ]
      dsimp only
      congr 1
      · simp
      · omega
      · omega
    rw [we, wd]
theorem imgW_dies {D : Dk} (al : aliveE D = 0) {f : Nat} (hf : D.fuse = f) {a m : Nat} {T : ByteArray} (hT : T.size = 128 * m) (ha : a + m ≤ D.kept.length) : ∀ k : Nat, f + 1 + k ≤ m → imgW D a T (f + 1 + k) = (30, { wroteK D a T f with dead := true })
  | 0, hk => by
    have ih := imgW_live al (by omega) hT ha f (by omega) (by omega)
    show (if (imgW D a T f).1 = 0 then _ else _) = _
    rw [ih, if_pos rfl]
    dsimp only
    have al2 : aliveE (wroteK D a T f) = 0 := (alive_of (D := D) rfl rfl).trans al
    have th : thereE (wroteK D a T f) ((a : Int) + f) = 0 := by
      have := there_at al2 (i := a + f) (by show a + f < D.kept.length; omega)
      rw [← this]; simp
    have hcs := chunk_size (i := f) hT (by omega)
    have hfz : (wroteK D a T f).fuse = 0 := by
      show max (D.fuse - f) (-1) = 0
      omega
    have we : writeE (wroteK D a T f) ((a : Int) + f) (chunk T f) = 30 := by
      unfold writeE burnE
      rw [if_pos th, if_neg (by omega), if_pos hfz]
    have wd : writeD (wroteK D a T f) ((a : Int) + f) (chunk T f) = { wroteK D a T f with dead := true } := by
      unfold writeD
      rw [if_pos ⟨th, by omega⟩, if_pos hfz]
      unfold burnD
      rw [if_pos hfz]
    rw [we, wd]
  | k + 1, hk => by
    have ih := imgW_dies al hf hT ha k (by omega)
    show (if (imgW D a T (f + 1 + k)).1 = 0 then _ else imgW D a T (f + 1 + k)) = _
    rw [ih, if_neg (by show ¬ (30 : Int) = 0; omega)]
theorem lastAt_append_no {l m : List (ByteArray × Int)} {i : Int} (h : ∀ x ∈ m, x.2 ≠ i) : lastAt (l ++ m) i = lastAt l i := by
  unfold lastAt
  rw [List.reverse_append, List.find?_append]
  rw [List.find?_eq_none.2 (fun x hx => by have := h x (List.mem_reverse.1 hx); simpa using this)]
  rfl
theorem lastAt_sec (l : List (ByteArray × Int)) (T : ByteArray) (a : Nat) {i : Nat} : ∀ k, i < k → lastAt (l ++ secL T a k) ((a + i : Nat) : Int) = some (chunk T i, ((a + i : Nat) : Int))
  | k + 1, h => by
    rw [secL_succ, ← List.append_assoc, lastAt_snoc]
    by_cases he : k = i
    · subst he; rw [if_pos (by simp)]
    · rw [if_neg (by simp; omega)]; exact lastAt_sec l T a k (by omega)
/-- What was written is read. -/
theorem readV_in {D : Dk} {w : List (ByteArray × Int)} {T : ByteArray} {a k i : Nat} (h : D.wait = w ++ secL T a k) (hi : i < k) : readV D ((a + i : Nat) : Int) = chunk T i := by
  unfold readV
  rw [h, lastAt_sec w T a k hi]
/-- What lies elsewhere is read as it was. -/
theorem readV_out {D D' : Dk} {T : ByteArray} {a k : Nat} {i : Int} (h : D'.wait = D.wait ++ secL T a k) (hk : D'.kept = D.kept) (hi : i < a ∨ (a + k : Nat) ≤ i) : readV D' i = readV D i := by
  unfold readV
  rw [h, hk, lastAt_append_no]
  intro x hx
  simp only [secL, List.mem_map, List.mem_range] at hx
  obtain ⟨j, hj, rfl⟩ := hx
  show ((a + j : Nat) : Int) ≠ i
  omega
theorem keep_reads {D : Dk} (ok : OkD D) (c : Nat) (hc : c < D.kept.length) : ∀ k, k ≤ D.wait.length → (keepK (fun _ => true) D.kept D.wait k).getD c ByteArray.empty = readF D c k
  | 0, _ => by rw [readF_zero]; rfl
  | k + 1, h => by
    obtain ⟨x, hx⟩ : ∃ x, D.wait[k]? = some x := ⟨_, List.getElem?_eq_getElem (by omega)⟩
    rw [keepK_yes hx rfl, List.getD_eq_getElem?_getD]
    have hw := ok.wk x (List.mem_of_getElem? hx)
    by_cases he : x.2 = (c : Int)
    · rw [readF_yes hx he, show x.2.toNat = c by omega, List.getElem?_set_self (by rw [keepK_len]; exact hc)]
      rfl
    · rw [readF_no hx he, List.getElem?_set_ne (by omega), ← List.getD_eq_getElem?_getD]
      exact keep_reads ok c hc k (by omega)
/-- A barrier keeps what is read. -/
theorem barrier_reads {D : Dk} (ok : OkD D) (al : aliveE D = 0) (fu : D.fuse = -1) : barrierE D = 0 ∧ (barrierD D).wait = [] ∧ (barrierD D).fuse = -1 ∧ (barrierD D).dead = D.dead ∧ (barrierD D).kept.length = D.kept.length ∧ ∀ c : Nat, c < D.kept.length → (barrierD D).kept.getD c ByteArray.empty = readV D c := by
  have hz : ¬ D.fuse = 0 := by omega
  have he : barrierE D = 0 := by
    unfold barrierE burnE
    rw [if_pos al, if_neg hz]
  have hd : barrierD D = keepD { D with fuse := max (D.fuse - 1) (-1), barriers := D.barriers + 1 } (fun _ => true) := by
    unfold barrierD barredD burnD
    rw [if_pos al, if_neg hz, if_neg hz]
  rw [hd]
  refine ⟨he, rfl, by show max (D.fuse - 1) (-1) = -1; omega, rfl, by show (keepK _ _ _ _).length = _; rw [keepK_len], fun c hc => ?_⟩
  show (keepK (fun _ => true) D.kept D.wait D.wait.length).getD c ByteArray.empty = _
  rw [keep_reads ok c hc _ (Nat.le_refl _), readF_all]
theorem keepK_other (pick : Nat → Bool) (kept : List ByteArray) (T : ByteArray) (m : Nat) {c : Nat} : ∀ k, k ≤ c → (keepK pick kept (secL T 0 m) k).getD c ByteArray.empty = kept.getD c ByteArray.empty
  | 0, _ => rfl
  | k + 1, h => by
    have ih := keepK_other pick kept T m k (c := c) (by omega)
    by_cases hk : k < m
    · have hg := secL_get T 0 hk
      rw [Nat.zero_add] at hg
      by_cases hp : pick k = true
      · rw [keepK_yes hg hp, List.getD_eq_getElem?_getD, List.getElem?_set_ne (by show ((k : Nat) : Int).toNat ≠ c; omega), ← List.getD_eq_getElem?_getD]
        exact ih
      · rw [keepK_no hg (by simpa using hp)]
        exact ih
    · have hg : (secL T 0 m)[k]? = none := List.getElem?_eq_none (by rw [secL_len]; omega)
      conv => lhs; arg 1; unfold keepK
      rw [hg]
      exact ih
/-- What is picked of a text that was written from the first sector on lies there behind a crash. -/
theorem keepK_secL (pick : Nat → Bool) (kept : List ByteArray) (T : ByteArray) (m : Nat) {c : Nat} (hc : c < kept.length) (hcm : c < m) (hp : pick c = true) : ∀ k, c < k → (keepK pick kept (secL T 0 m) k).getD c ByteArray.empty = chunk T c
  | k + 1, h => by
    by_cases he : k = c
    · subst he
      have hg := secL_get T 0 hcm
      rw [Nat.zero_add] at hg
      rw [keepK_yes hg hp, List.getD_eq_getElem?_getD, show ((k : Nat) : Int).toNat = k by omega, List.getElem?_set_self (by rw [keepK_len]; exact hc)]
      rfl
    · have ih := keepK_secL pick kept T m hc hcm hp k (by omega)
      by_cases hk : k < m
      · have hg := secL_get T 0 hk
        rw [Nat.zero_add] at hg
        by_cases hp2 : pick k = true
        · rw [keepK_yes hg hp2, List.getD_eq_getElem?_getD, List.getElem?_set_ne (by show ((k : Nat) : Int).toNat ≠ c; omega), ← List.getD_eq_getElem?_getD]
          exact ih
        · rw [keepK_no hg (by simpa using hp2)]
          exact ih
      · have hg : (secL T 0 m)[k]? = none := List.getElem?_eq_none (by rw [secL_len]; omega)
        conv => lhs; arg 1; unfold keepK
        rw [hg]
        exact ih
theorem imgW_stop {D : Dk} {f : Int} {T : ByteArray} {j : Nat} (h : (imgW D f T j).1 ≠ 0) : ∀ k, imgW D f T (j + k) = imgW D f T j
  | 0 => rfl
  | k + 1 => by
    have ih := imgW_stop h k
    show (if (imgW D f T (j + k)).1 = 0 then _ else imgW D f T (j + k)) = _
    rw [ih, if_neg h]
theorem writeD_counts (D : Dk) (i : Int) (s : ByteArray) : (writeD D i s).writes ≤ D.writes + 1 ∧ (writeD D i s).wait.length ≤ D.wait.length + 1 ∧ (writeD D i s).barriers = D.barriers ∧ (writeD D i s).kept = D.kept := by
  obtain ⟨e1, e2, e3, e4⟩ := burnD_same D
  unfold writeD wroteD
  split
  · split
    · rw [e1, e2, e3, e4]; exact ⟨by omega, by omega, rfl, rfl⟩
    · refine ⟨?_, ?_, e4, e1⟩
      · show (burnD D).writes + 1 ≤ _; omega
      · show ((burnD D).wait ++ [_]).length ≤ _; rw [List.length_append, e2]; exact Nat.le_refl _
  · exact ⟨by omega, by omega, rfl, rfl⟩
theorem imgW_ok {D : Dk} (ok : OkD D) (f : Int) (T : ByteArray) : ∀ k : Nat, D.writes + k < 1000000 → D.wait.length + k < 1000000 → OkD (imgW D f T k).2 ∧ (imgW D f T k).2.writes ≤ D.writes + k ∧ (imgW D f T k).2.wait.length ≤ D.wait.length + k ∧ (imgW D f T k).2.barriers = D.barriers ∧ (imgW D f T k).2.kept = D.kept
  | 0, _, _ => ⟨ok, by show D.writes ≤ D.writes + 0; omega, Nat.le_refl _, rfl, rfl⟩
  | k + 1, h1, h2 => by
    obtain ⟨a, b, c, d, e⟩ := imgW_ok ok f T k (by omega) (by omega)
    unfold imgW
    split
    · obtain ⟨b2, c2, d2, e2⟩ := writeD_counts (imgW D f T k).2 (f + k) (chunk T k)
      exact ⟨a.write _ _ (by omega) (by omega), by show (writeD _ _ _).writes ≤ _; omega, by show (writeD _ _ _).wait.length ≤ _; omega, by show (writeD _ _ _).barriers = _; rw [d2, d], by show (writeD _ _ _).kept = _; rw [e2, e]⟩
    · exact ⟨a, by omega, by omega, d, e⟩
end Go.Proofs.Ytmkpglabiikdeaa
