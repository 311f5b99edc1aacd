/-
  posthouse/disk: a disk in memory, and what its small methods answer.
-/
import Derived.Test.YtmkpglabiikdeaaGreatDoorRows
import Derived.Test.YtmkpglabiikdeaaGreatDoorRange
import Derived.Test.YtmkpglabiikdeaaGreatDoorMore
import Derived.Test.YtmkpglabiikdeaaGreatDoorShelf
namespace Go.Proofs.YtmkpglabiikdeaaGreatDoor
open Go.RowKit PH

structure Dk where
  kept : List ByteArray
  wait : List (ByteArray × Int)
  fuse : Int
  dead : Bool
  writes : Int
  barriers : Int

def sects (l : List ByteArray) : List Value := l.map .string
def waits (l : List (ByteArray × Int)) : List Value := l.flatMap fun x => [.string x.1, .int .i64 x.2]
def diskObj (vk vw : Value) (D : Dk) : Obj := .cells #[vk, vw, .int .i64 D.fuse, .bool D.dead, .int .i64 D.writes, .int .i64 D.barriers] 100
/-- The disk at block b. -/
def isDisk (b : Nat) (D : Dk) : HP :=
  ex fun p : Value × Value => seps [pt b (diskObj p.1 p.2 D), row 90 1 p.1 D.kept.length (sects D.kept), row 149 2 p.2 D.wait.length (waits D.wait)]

theorem waits_length : ∀ l : List (ByteArray × Int), (waits l).length = l.length * 2
  | [] => rfl
  | _ :: l => by
    have := waits_length l
    unfold waits at *
    rw [List.flatMap_cons, List.length_append, this]
    show 2 + l.length * 2 = (l.length + 1) * 2
    omega

section
variable {E W : World} {L : List HP} {b : Nat} {D : Dk}

theorem rowSlice {e : TypeId} {sz n : Nat} {v : Value} {cs : List Value} (x : Sat E W (row e sz v n cs :: L)) : ∃ a c, v = .slice a n c ∧ n ≤ c := by
  obtain ⟨_, hx⟩ := x.rowCases
  rcases hx with ⟨rfl, rfl, _, _⟩ | ⟨g, cap, cur, rfl, h1, _⟩
  · exact ⟨none, 0, rfl, Nat.le_refl _⟩
  · exact ⟨some ⟨g, 0, none⟩, cap, rfl, h1⟩

/-- A disk, opened: its block, its two rows, and what a walk reads of the block. -/
theorem disk_open (x : Sat E W (isDisk b D :: L)) : ∃ ak ck aw cw, Sat E W (pt b (diskObj (.slice ak D.kept.length ck) (.slice aw D.wait.length cw) D) :: row 90 1 (.slice ak D.kept.length ck) D.kept.length (sects D.kept) ::
      row 149 2 (.slice aw D.wait.length cw) D.wait.length (waits D.wait) :: L) ∧ D.kept.length ≤ ck ∧ D.wait.length ≤ cw := by
  obtain ⟨⟨vk, vw⟩, hx⟩ := x.ex
  have hx := hx.flat
  obtain ⟨ak, ck, rfl, h1⟩ := rowSlice hx.p1
  obtain ⟨aw, cw, rfl, h2⟩ := rowSlice hx.p2
  exact ⟨ak, ck, aw, cw, hx, h1, h2⟩
theorem disk_close {vk vw : Value} (x : Sat E W (pt b (diskObj vk vw D) :: row 90 1 vk D.kept.length (sects D.kept) :: row 149 2 vw D.wait.length (waits D.wait) :: L)) : Sat E W (isDisk b D :: L) :=
  Sat.mkEx (A := fun p : Value × Value => seps [pt b (diskObj p.1 p.2 D), row 90 1 p.1 D.kept.length (sects D.kept), row 149 2 p.2 D.wait.length (waits D.wait)]) (vk, vw) (Sat.pack [_, _, _] x)

theorem disk_cells {vk vw : Value} (x : Sat E W (pt b (diskObj vk vw D) :: L)) : W.cell? ⟨b, 0, none⟩ = some vk ∧ W.cell? ⟨b, 1, none⟩ = some vw ∧ W.cell? ⟨b, 2, none⟩ = some (.int .i64 D.fuse) ∧ W.cell? ⟨b, 3, none⟩ = some (.bool D.dead) ∧
    W.cell? ⟨b, 4, none⟩ = some (.int .i64 D.writes) ∧ W.cell? ⟨b, 5, none⟩ = some (.int .i64 D.barriers) ∧ ∀ i, W.frozen? ⟨b, i, none⟩ = false :=
  ⟨cell_blk x.at 0, cell_blk x.at 1, cell_blk x.at 2, cell_blk x.at 3, cell_blk x.at 4, cell_blk x.at 5, fun i => frozen_blk x.at i⟩
end

def nKept (D : Dk) : Nat := D.kept.length
def madeB (D : Dk) : Bool := decide (0 < D.kept.length)
def aliveE (D : Dk) : Int := if madeB D then (if D.dead then 30 else 0) else 1
def thereE (D : Dk) (i : Int) : Int := if aliveE D = 0 then (if i < 0 ∨ (D.kept.length : Int) ≤ i then 3 else 0) else aliveE D

theorem made_ok {E W : World} {L : List HP} {b : Nat} {D : Dk} (x : Sat E W (isDisk b D :: L)) : Calls Tryz.prog 66 #[.pointer (some ⟨b, 0, none⟩)] W fun e w' => e = .returned (.bool (madeB D)) ∧ w' = W := by
  obtain ⟨ak, ck, aw, cw, hx, -, -⟩ := disk_open x
  obtain ⟨c0, -⟩ := disk_cells hx
  clear x hx
  go_enter Tryz.func66, Tryz.ntmps66
  go_wp2
  go_ret
  exact ⟨rfl, rfl⟩
theorem made_nil {W : World} : Calls Tryz.prog 66 #[.pointer none] W fun e w' => e = .returned (.bool false) ∧ w' = W := by
  go_enter Tryz.func66, Tryz.ntmps66
  go_wp2
  go_ret
  exact ⟨rfl, rfl⟩

theorem alive_ok {E W : World} {L : List HP} {b : Nat} {D : Dk} (x : Sat E W (isDisk b D :: L)) : Calls Tryz.prog 59 #[.pointer (some ⟨b, 0, none⟩)] W fun e w' => e = .returned (.int .i64 (aliveE D)) ∧ w' = W := by
  have HX := Lib.hid x
  obtain ⟨ak, ck, aw, cw, hx, -, -⟩ := disk_open x
  obtain ⟨-, -, -, c3, -⟩ := disk_cells hx
  clear x hx
  obtain ⟨m, hm⟩ : ∃ m, madeB D = m := ⟨_, rfl⟩
  obtain ⟨dd, hd⟩ : ∃ dd, D.dead = dd := ⟨_, rfl⟩
  rw [hd] at c3
  have HM := Lib.hid hm
  have HD := Lib.hid hd
  clear hm hd
  go_enter Tryz.func59, Tryz.ntmps59
  go_wp2_with (go_at_call 66; refine (made_ok HX.out).mono ?_; rintro e w2 ⟨rfl, rfl⟩; rw [HM.out])
  all_goals go_ret
  all_goals refine ⟨retI ?_, rfl⟩
  all_goals (unfold aliveE; rw [HM.out, HD.out]; simp_all)
theorem alive_nil {W : World} : Calls Tryz.prog 59 #[.pointer none] W fun e w' => e = .returned (.int .i64 1) ∧ w' = W := by
  go_enter Tryz.func59, Tryz.ntmps59
  go_wp2_with (go_at_call 66; refine made_nil.mono ?_; rintro e w2 ⟨rfl, rfl⟩)
  go_ret
  exact ⟨rfl, rfl⟩

theorem there_ok {E W : World} {L : List HP} {b : Nat} {D : Dk} (x : Sat E W (isDisk b D :: L)) (i : Int) : Calls Tryz.prog 92 #[.pointer (some ⟨b, 0, none⟩), .int .i64 i] W fun e w' => e = .returned (.int .i64 (thereE D i)) ∧ w' = W := by
  have HX := Lib.hid x
  obtain ⟨ak, ck, aw, cw, hx, -, -⟩ := disk_open x
  obtain ⟨c0, -⟩ := disk_cells hx
  clear x hx
  obtain ⟨m, hm⟩ : ∃ m, aliveE D = m := ⟨_, rfl⟩
  have HM := Lib.hid hm
  clear hm
  obtain ⟨n, hn⟩ : ∃ n, D.kept.length = n := ⟨_, rfl⟩
  rw [hn] at c0
  have HN := Lib.hid hn
  clear hn
  go_enter Tryz.func92, Tryz.ntmps92
  go_wp2_with (go_at_call 59; refine (alive_ok HX.out).mono ?_; rintro e w2 ⟨rfl, rfl⟩; rw [HM.out])
  all_goals go_ret
  all_goals refine ⟨retI ?_, rfl⟩
  all_goals (unfold thereE; rw [HM.out, HN.out]; grind)
theorem there_nil {W : World} (i : Int) : Calls Tryz.prog 92 #[.pointer none, .int .i64 i] W fun e w' => e = .returned (.int .i64 1) ∧ w' = W := by
  go_enter Tryz.func92, Tryz.ntmps92
  go_wp2_with (go_at_call 59; refine alive_nil.mono ?_; rintro e w2 ⟨rfl, rfl⟩)
  go_ret
  exact ⟨rfl, rfl⟩

def burnD (D : Dk) : Dk := if D.fuse = 0 then { D with dead := true } else { D with fuse := max (D.fuse - 1) (-1) }
def burnE (D : Dk) : Int := if D.fuse = 0 then 30 else 0

theorem burn_ok {E W : World} {L : List HP} {b : Nat} {D : Dk} (x : Sat E W (isDisk b D :: L)) (hf : -1 ≤ D.fuse) (hf2 : D.fuse ≤ 9223372036854775807) : Calls Tryz.prog 60 #[.pointer (some ⟨b, 0, none⟩)] W fun e w' => e = .returned (.int .i64 (burnE D)) ∧ Sat E w' (isDisk b (burnD D) :: L) := by
  obtain ⟨ak, ck, aw, cw, hx, -, -⟩ := disk_open x
  obtain ⟨-, -, c2, c3, -, -, f⟩ := disk_cells hx
  have f2 := f 2
  have f3 := f 3
  clear f x
  obtain ⟨fu, hfu⟩ : ∃ fu, D.fuse = fu := ⟨_, rfl⟩
  rw [hfu] at c2 hf hf2
  have HX := Lib.hid hx
  have HF := Lib.hid hfu
  clear hx hfu
  by_cases h0 : fu = 0
  · go_enter Tryz.func60, Tryz.ntmps60
    go_wp2
    go_ret
    refine ⟨retI (by unfold burnE; rw [if_pos (by rw [HF.out]; exact h0)]), ?_⟩
    unfold burnD
    rw [if_pos (by rw [HF.out]; exact h0)]
    exact disk_close (HX.out.setCell 3 (.bool true))
  · have hb : (fu == 0) = false := beq_eq_false_iff_ne.2 h0
    go_enter Tryz.func60, Tryz.ntmps60
    go_wp2
    go_ret
    refine ⟨retI (by unfold burnE; rw [if_neg (by rw [HF.out]; exact h0)]), ?_⟩
    unfold burnD
    rw [if_neg (by rw [HF.out]; exact h0)]
    have := HX.out.setCell 2 (.int .i64 (max (fu - 1) (-1)))
    rw [← HF.out] at this ⊢
    exact disk_close this

theorem size_ok {E W : World} {L : List HP} {b : Nat} {D : Dk} (x : Sat E W (isDisk b D :: L)) : Calls Tryz.prog 56 #[.pointer (some ⟨b, 0, none⟩)] W fun e w' => e = .returned (.int .i64 D.kept.length) ∧ w' = W := by
  have HX := Lib.hid x
  obtain ⟨ak, ck, aw, cw, hx, -, -⟩ := disk_open x
  obtain ⟨c0, -⟩ := disk_cells hx
  clear x hx
  obtain ⟨m, hm⟩ : ∃ m, madeB D = m := ⟨_, rfl⟩
  have HM := Lib.hid hm
  clear hm
  obtain ⟨n, hn⟩ : ∃ n, D.kept.length = n := ⟨_, rfl⟩
  rw [hn] at c0 ⊢
  have HN := Lib.hid hn
  clear hn
  go_enter Tryz.func56, Tryz.ntmps56
  go_wp2_with (go_at_call 66; refine (made_ok HX.out).mono ?_; rintro e w2 ⟨rfl, rfl⟩; rw [HM.out])
  all_goals go_ret
  all_goals refine ⟨retI ?_, rfl⟩
  all_goals (have := HM.out; unfold madeB at this; rw [HN.out] at this; try simp_all)
theorem size_nil {W : World} : Calls Tryz.prog 56 #[.pointer none] W fun e w' => e = .returned (.int .i64 0) ∧ w' = W := by
  go_enter Tryz.func56, Tryz.ntmps56
  go_wp2_with (go_at_call 66; refine made_nil.mono ?_; rintro e w2 ⟨rfl, rfl⟩)
  go_ret
  exact ⟨rfl, rfl⟩

theorem dead_ok {E W : World} {L : List HP} {b : Nat} {D : Dk} (x : Sat E W (isDisk b D :: L)) : Calls Tryz.prog 57 #[.pointer (some ⟨b, 0, none⟩)] W fun e w' => e = .returned (.bool (madeB D && D.dead)) ∧ w' = W := by
  have HX := Lib.hid x
  obtain ⟨ak, ck, aw, cw, hx, -, -⟩ := disk_open x
  obtain ⟨-, -, -, c3, -⟩ := disk_cells hx
  clear x hx
  obtain ⟨m, hm⟩ : ∃ m, madeB D = m := ⟨_, rfl⟩
  have HM := Lib.hid hm
  rw [hm]
  clear hm
  obtain ⟨dd, hd⟩ : ∃ dd, D.dead = dd := ⟨_, rfl⟩
  rw [hd] at c3 ⊢
  clear hd
  go_enter Tryz.func57, Tryz.ntmps57
  go_wp2_with (go_at_call 66; refine (made_ok HX.out).mono ?_; rintro e w2 ⟨rfl, rfl⟩; rw [HM.out])
  all_goals go_ret
  all_goals exact ⟨retB (by simp_all), rfl⟩
theorem dead_nil {W : World} : Calls Tryz.prog 57 #[.pointer none] W fun e w' => e = .returned (.bool false) ∧ w' = W := by
  go_enter Tryz.func57, Tryz.ntmps57
  go_wp2_with (go_at_call 66; refine made_nil.mono ?_; rintro e w2 ⟨rfl, rfl⟩)
  go_ret
  exact ⟨rfl, rfl⟩


def armD (D : Dk) (n : Int) : Dk := if aliveE D = 0 then { D with fuse := max n (-1) } else D
theorem arm_ok {E W : World} {L : List HP} {b : Nat} {D : Dk} (x : Sat E W (isDisk b D :: L)) (n : Int) : Calls Tryz.prog 24 #[.pointer (some ⟨b, 0, none⟩), .int .i64 n] W fun e w' => e = .returned (.int .i64 (aliveE D)) ∧ Sat E w' (isDisk b (armD D n) :: L) := by
  have HS := Lib.hid x
  obtain ⟨ak, ck, aw, cw, hx, -, -⟩ := disk_open x
  obtain ⟨-, -, c2, -, -, -, f⟩ := disk_cells hx
  have f2 := f 2
  clear f x
  have HX := Lib.hid hx
  clear hx
  obtain ⟨m, hm⟩ : ∃ m, aliveE D = m := ⟨_, rfl⟩
  have HM := Lib.hid hm
  rw [hm]
  clear hm
  by_cases h0 : m = 0
  · subst h0
    go_enter Tryz.func24, Tryz.ntmps24
    go_wp2_with (go_at_call 59; refine (alive_ok HS.out).mono ?_; rintro e w2 ⟨rfl, rfl⟩; rw [HM.out])
    go_ret
    refine ⟨rfl, ?_⟩
    unfold armD
    rw [if_pos HM.out]
    exact disk_close (HX.out.setCell 2 (.int .i64 (max n (-1))))
  · have hb : (m != 0) = true := by simp [h0]
    go_enter Tryz.func24, Tryz.ntmps24
    go_wp2_with (go_at_call 59; refine (alive_ok HS.out).mono ?_; rintro e w2 ⟨rfl, rfl⟩; rw [HM.out])
    go_ret
    refine ⟨rfl, ?_⟩
    unfold armD
    rw [if_neg (by rw [HM.out]; exact h0)]
    exact HS.out
theorem arm_nil {W : World} (n : Int) : Calls Tryz.prog 24 #[.pointer none, .int .i64 n] W fun e w' => e = .returned (.int .i64 1) ∧ w' = W := by
  go_enter Tryz.func24, Tryz.ntmps24
  go_wp2_with (go_at_call 59; refine alive_nil.mono ?_; rintro e w2 ⟨rfl, rfl⟩)
  go_ret
  exact ⟨rfl, rfl⟩

theorem add_ok {W : World} {b i : Nat} {n : Int} (hc : W.cell? ⟨b, i, none⟩ = some (.int .i64 n)) (hz : W.frozen? ⟨b, i, none⟩ = false) (h0 : 0 ≤ n) (h1 : n < 9223372036854775807) :
    Calls Tryz.prog 61 #[.pointer (some ⟨b, i, none⟩), .int .i64 1] W fun e w' => e = .returned (.int .i64 (n + 1)) ∧ w' = W.setCell ⟨b, i, none⟩ (.int .i64 (n + 1)) := by
  have hw : IntKind.i64.wrap (n + 1) = n + 1 := by rw [IntKind.wrap_i64]; omega
  have hadd := run_call_add (P := Tryz.prog) Tryz.func91 (by kernel_rfl) (by kernel_rfl) (by kernel_rfl) .i64 (by kernel_rfl) (y := 1) (s := n + 1) hc hz (by simp [go_sem, hw])
  clear hw
  go_enter Tryz.func61, Tryz.ntmps61
  go_wp2
  go_ret
  exact ⟨rfl, rfl⟩
end Go.Proofs.YtmkpglabiikdeaaGreatDoor

