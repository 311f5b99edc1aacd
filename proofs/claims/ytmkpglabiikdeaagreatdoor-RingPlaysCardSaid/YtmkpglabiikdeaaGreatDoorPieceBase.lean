/-
  Pieces: the data, and what the small functions of layer 11 answer.
-/
import Derived.Test.YtmkpglabiikdeaaGreatDoorRows
import Derived.Test.YtmkpglabiikdeaaGreatDoorRange
namespace Go.Proofs.YtmkpglabiikdeaaGreatDoor
open Go.RowKit PH

structure Pc where
  epoch : Int
  seq : Int
  part : Int
  parts : Int
  data : ByteArray

def Pc.cells (p : Pc) : List Value := [.int .i64 p.epoch, .int .i64 p.seq, .int .i64 p.part, .int .i64 p.parts, .string p.data]
def Pc.val (p : Pc) : Value := .agg #[.int .i64 p.epoch, .int .i64 p.seq, .int .i64 p.part, .int .i64 p.parts, .string p.data]
def pcs (l : List Pc) : List Value := l.flatMap Pc.cells

/-- The cells from a slice's address on read as the list. -/
def Sees (w : World) (a : Option Addr) (cs : List Value) : Prop := ∀ j u, cs[j]? = some u → ∃ b off, a = some ⟨b, off, none⟩ ∧ w.cell? ⟨b, off + j, none⟩ = some u

theorem flat5 {α β : Type} (f : α → List β) (k : Nat) (hf : ∀ x, (f x).length = k) : ∀ (l : List α) (i j : Nat) (x : α), l[i]? = some x → j < k → (l.flatMap f)[i * k + j]? = (f x)[j]?
  | y :: l, 0, j, x, h, hj => by
    simp at h; subst h
    rw [List.flatMap_cons, Nat.zero_mul, Nat.zero_add, List.getElem?_append_left (by rw [hf]; exact hj)]
  | y :: l, i + 1, j, x, h, hj => by
    rw [List.flatMap_cons, List.getElem?_append_right (by rw [hf, Nat.succ_mul]; omega), hf]
    have e : (i + 1) * k + j - k = i * k + j := by rw [Nat.succ_mul]; omega
    rw [e]
    exact flat5 f k hf l i j x (by simpa using h) hj

theorem Sees.piece {w : World} {a : Option Addr} {l : List Pc} (h : Sees w a (pcs l)) {k : Nat} (hk : k < l.length) :
    ∃ b off, a = some ⟨b, off, none⟩ ∧ w.cell? ⟨b, off + k * 5, none⟩ = some (.int .i64 l[k].epoch) ∧ w.cell? ⟨b, off + k * 5 + 1, none⟩ = some (.int .i64 l[k].seq) ∧
      w.cell? ⟨b, off + k * 5 + 2, none⟩ = some (.int .i64 l[k].part) ∧ w.cell? ⟨b, off + k * 5 + 3, none⟩ = some (.int .i64 l[k].parts) ∧ w.cell? ⟨b, off + k * 5 + 4, none⟩ = some (.string l[k].data) := by
  have g : ∀ j, j < 5 → (pcs l)[k * 5 + j]? = l[k].cells[j]? := fun j hj => flat5 Pc.cells 5 (fun _ => rfl) l k j l[k] (List.getElem?_eq_getElem hk) hj
  obtain ⟨b, off, rfl, h0⟩ := h _ _ (g 0 (by omega))
  refine ⟨b, off, rfl, h0, ?_, ?_, ?_, ?_⟩
  · obtain ⟨b', off', e, h1⟩ := h _ _ (g 1 (by omega)); cases e; exact h1
  · obtain ⟨b', off', e, h1⟩ := h _ _ (g 2 (by omega)); cases e; exact h1
  · obtain ⟨b', off', e, h1⟩ := h _ _ (g 3 (by omega)); cases e; exact h1
  · obtain ⟨b', off', e, h1⟩ := h _ _ (g 4 (by omega)); cases e; exact h1

def bigs (l : List Pc) : Bool := (l.take 70).any (fun p => decide (200 < p.data.size)) || decide (70 < l.length)

theorem bigs_yes {l : List Pc} {k : Nat} (h1 : k < l.length) (h2 : k < 70) (h : 200 < l[k].data.size) : bigs l = true := by
  have hm : l[k] ∈ l.take 70 := List.mem_of_getElem? (i := k) (by rw [List.getElem?_take, if_pos h2]; exact List.getElem?_eq_getElem h1)
  unfold bigs
  rw [List.any_eq_true.2 ⟨_, hm, by simpa using h⟩]
  rfl
theorem bigs_no {l : List Pc} {k : Nat} (h : ∀ j, j < k → ∀ p, l[j]? = some p → ¬ 200 < p.data.size) (hk : l.length ≤ k ∨ 70 ≤ k) : bigs l = decide (70 < l.length) := by
  unfold bigs
  rw [List.any_eq_false.2, Bool.false_or]
  intro p hp
  obtain ⟨j, hj⟩ := List.getElem?_of_mem hp
  rw [List.getElem?_take] at hj
  split at hj
  · rename_i h7
    have := h j (by have := (List.getElem?_eq_some_iff.1 hj).1; omega) p hj
    simpa using this
  · cases hj

set_option maxHeartbeats 400000 in
theorem large_ok {w : World} {a : Option Addr} {c : Nat} {l : List Pc} (h : Sees w a (pcs l)) (hl : l.length ≤ 9223372036854775807) :
    Calls Tryz.prog 9 #[.slice a l.length c] w fun e w' => e = .returned (.bool (bigs l)) ∧ w' = w := by
  go_enter Tryz.func9, Tryz.ntmps9
  go_wp2
  go_loop [3] (fun i => ∃ k : Nat, k ≤ l.length ∧ k ≤ 70 ∧ i = .int .i64 k ∧ ∀ j, j < k → ∀ p, l[j]? = some p → ¬ 200 < p.data.size) (fun i => 70 - (intOf i).toNat)
  case atStart => exact ⟨0, by omega, by omega, rfl, fun j hj => by omega⟩
  case round =>
    obtain ⟨k, hk, hk7, rfl, hno⟩ := hrel
    have HN := Lib.hid hno
    clear hno
    by_cases h1 : k < l.length
    · by_cases h2 : k < 70
      · obtain ⟨b, off, rfl, c0, c1, c2, c3, c4⟩ := h.piece h1
        clear h
        by_cases h3 : 200 < l[k].data.size
        · go_wp2
          go_ret
          exact ⟨retB (bigs_yes h1 h2 h3).symm, rfl⟩
        · go_wp2
          go_round
          case rel => exact ⟨k + 1, by omega, by omega, by go_num, fun j hj p hp => by
            rcases Nat.lt_or_ge j k with h' | h'
            · exact HN.out j h' p hp
            · obtain rfl : j = k := by omega
              rw [List.getElem?_eq_getElem h1] at hp; cases hp; exact h3⟩
          case measure => simp [intOf]; omega
      · go_wp2
        go_ret
        exact ⟨retB (by rw [bigs_no HN.out (.inr (by omega))]; simp; omega), rfl⟩
    · go_wp2
      go_ret
      exact ⟨retB (by rw [bigs_no HN.out (.inl (by omega))]; simp; omega), rfl⟩

def nums (epoch seq : Int) : Bool := decide (1 ≤ epoch) && decide (epoch ≤ 4294967295) && decide (1 ≤ seq)

theorem numbers_ok (e s : Int) (w : World) : Calls Tryz.prog 45 #[.int .i64 e, .int .i64 s] w fun r w' => r = .returned (.bool (nums e s)) ∧ w' = w := by
  go_enter Tryz.func45, Tryz.ntmps45
  go_wp2
  all_goals (go_ret; refine ⟨retB ?_, rfl⟩; simp [nums, *] <;> omega)
theorem nums_ok (e s : Int) (w : World) : Calls Tryz.prog 44 #[.int .i64 e, .int .i64 s] w fun r w' => r = .returned (.bool (nums e s)) ∧ w' = w := by
  go_enter Tryz.func44, Tryz.ntmps44
  go_wp2
  all_goals (go_ret; refine ⟨retB ?_, rfl⟩; simp [nums, *] <;> omega)

def count (n : Int) : Int := if n < 0 ∨ 6400 < n then 0 else max 1 ((n + 99) / 100)

theorem count_ok (n : Int) (w : World) : Calls Tryz.prog 37 #[.int .i64 n] w fun r w' => r = .returned (.int .i64 (count n)) ∧ w' = w := by
  by_cases h1 : n < 0
  · go_enter Tryz.func37, Tryz.ntmps37
    go_wp2
    go_ret
    exact ⟨by simp [count, h1], rfl⟩
  · by_cases h2 : 6400 < n
    · go_enter Tryz.func37, Tryz.ntmps37
      go_wp2
      go_ret
      exact ⟨by simp [count, h2], rfl⟩
    · go_enter Tryz.func37, Tryz.ntmps37
      go_wp2
      all_goals (go_ret; refine ⟨?_, rfl⟩; simp [count, *]; try omega)

/-- A piece has as many bytes as it must have (posthouse/piece.full). -/
def full (p : Pc) : Bool := if p.part < p.parts - 1 then (p.data.size : Int) == 100 else if p.parts == 1 then decide ((p.data.size : Int) ≤ 100) else decide (0 < (p.data.size : Int)) && decide ((p.data.size : Int) ≤ 100)

/-- A piece may be. -/
def okPc (p : Pc) : Bool := nums p.epoch p.seq && decide (1 ≤ p.parts) && decide (p.parts ≤ 64) && decide (0 ≤ p.part) && decide (p.part < p.parts) && full p


set_option maxHeartbeats 400000 in
theorem full_ok (p : Pc) (w : World) (hs : p.data.size ≤ 9223372036854775807) (h1 : 1 ≤ p.parts) (h2 : p.parts ≤ 64) : Calls Tryz.prog 46 #[p.val] w fun r w' => r = .returned (.bool (full p)) ∧ Below w.heap.size w w' := by
  obtain ⟨ep, sq, pt, ps, d⟩ := p
  simp only [Pc.val] at *
  go_enter Tryz.func46, Tryz.ntmps46
  go_wp2
  all_goals (go_ret; refine ⟨retB ?_, (Below.refl _ _).alloc (Nat.le_refl _) _⟩; simp only [full]; (repeat' split) <;> simp_all <;> omega)

/-- What posthouse/piece.Check answers. -/
def chk (p : Pc) : Int := if okPc p then 0 else 14

theorem okPc_yes {p : Pc} (h1 : nums p.epoch p.seq = true) (h2 : 1 ≤ p.parts) (h3 : p.parts ≤ 64) (h4 : 0 ≤ p.part) (h5 : p.part < p.parts) (h6 : full p = true) : okPc p = true := by
  simp [okPc, *]

set_option maxHeartbeats 400000 in
theorem check_ok (p : Pc) (w : World) (hs : p.data.size ≤ 9223372036854775807) : Calls Tryz.prog 13 #[p.val] w fun r w' => r = .returned (.int .i64 (chk p)) ∧ Below w.heap.size w w' := by
  obtain ⟨ep, sq, pt, ps, d⟩ := p
  obtain ⟨f, hf⟩ : ∃ f, full ⟨ep, sq, pt, ps, d⟩ = f := ⟨_, rfl⟩
  have hfc := full_ok ⟨ep, sq, pt, ps, d⟩
  rw [hf] at hfc
  have HF := Lib.hid hf
  have HC := Lib.hid hfc
  clear hf hfc
  simp only [Pc.val] at *
  go_enter Tryz.func13, Tryz.ntmps13
  go_wp2_with (first
    | (go_at_call 45; refine (numbers_ok _ _ _).mono ?_; rintro e w' ⟨rfl, rfl⟩)
    | (go_at_call 46; refine (HC.out _ (by assumption) (by omega) (by omega)).mono ?_; rintro e w' ⟨rfl, hb⟩))
  all_goals go_ret
  all_goals refine ⟨retI ?_, ?_⟩
  all_goals first
    | exact (Below.refl _ _).alloc (Nat.le_refl _) _
    | exact ((Below.refl _ _).alloc (Nat.le_refl _) _).trans (hb.mono (by simp))
    | (simp only [chk, okPc, HF.out]; grind)


set_option maxHeartbeats 400000 in
theorem refCheck_ok (p : Pc) (w : World) (hs : p.data.size ≤ 9223372036854775807) : Calls Tryz.prog 12 #[p.val] w fun r w' => r = .returned (.bool (okPc p)) ∧ Below w.heap.size w w' := by
  obtain ⟨ep, sq, pt, ps, d⟩ := p
  simp only [Pc.val] at *
  obtain ⟨n, hn⟩ : ∃ n, d.size = n := ⟨_, rfl⟩
  rw [hn] at hs
  go_enter Tryz.func12, Tryz.ntmps12
  go_wp2_with (first
      | (go_at_call 44; refine (nums_ok _ _ _).mono ?_; rintro e w' ⟨rfl, rfl⟩))
  all_goals go_ret
  all_goals refine ⟨retB ?_, ?_⟩
  all_goals first
    | exact (Below.refl _ _).alloc (Nat.le_refl _) _
    | (simp only [okPc, full, hn]; grind)
end Go.Proofs.YtmkpglabiikdeaaGreatDoor

