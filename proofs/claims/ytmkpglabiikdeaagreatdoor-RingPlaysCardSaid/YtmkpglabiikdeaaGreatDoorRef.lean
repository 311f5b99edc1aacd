/-
  Layer 10's document: the reference disk, its functions walked.
-/
import Derived.Test.YtmkpglabiikdeaaGreatDoorRefP
namespace Go.Proofs.YtmkpglabiikdeaaGreatDoor
open Go.RowKit PH

def rwaits (l : List (ByteArray × Int)) : List Value := l.flatMap fun x => [.int .i64 x.2, .string x.1]
def refObj (vk vw : Value) (D : Dk) : Obj := .cells #[vk, vw, .int .i64 D.fuse, .bool D.dead, .int .i64 D.writes, .int .i64 D.barriers] 112
/-- The document's disk at block b. -/
def isRef (b : Nat) (D : Dk) : HP :=
  ex fun p : Value × Value => seps [pt b (refObj p.1 p.2 D), row 9 1 p.1 D.kept.length (sects D.kept), row 120 2 p.2 D.wait.length (rwaits D.wait)]
theorem rwaits_length : ∀ l : List (ByteArray × Int), (rwaits l).length = l.length * 2
  | [] => rfl
  | _ :: l => by
    have := rwaits_length l
    unfold rwaits at *
    rw [List.flatMap_cons, List.length_append, this]
    show 2 + l.length * 2 = (l.length + 1) * 2
    omega
theorem rwaits_get {l : List (ByteArray × Int)} {k : Nat} {x : ByteArray × Int} (h : l[k]? = some x) : (rwaits l)[k * 2]? = some (.int .i64 x.2) ∧ (rwaits l)[k * 2 + 1]? = some (.string x.1) :=
  ⟨flatN _ 2 (fun _ => rfl) l k 0 x h (by omega), flatN _ 2 (fun _ => rfl) l k 1 x h (by omega)⟩

section
variable {E W : World} {L : List HP} {b : Nat} {D : Dk}
theorem ref_open (x : Sat E W (isRef b D :: L)) : ∃ ak ck aw cw, Sat E W (pt b (refObj (.slice ak D.kept.length ck) (.slice aw D.wait.length cw) D) :: row 9 1 (.slice ak D.kept.length ck) D.kept.length (sects D.kept) ::
      row 120 2 (.slice aw D.wait.length cw) D.wait.length (rwaits D.wait) :: L) ∧ D.kept.length ≤ ck ∧ D.wait.length ≤ cw := by
  obtain ⟨⟨vk, vw⟩, hx⟩ := x.ex
  have hx := hx.flat
  obtain ⟨ak, ck, rfl, h1⟩ := rowSlice hx.p1
  obtain ⟨aw, cw, rfl, h2⟩ := rowSlice hx.p2
  exact ⟨ak, ck, aw, cw, hx, h1, h2⟩
theorem ref_close {vk vw : Value} (x : Sat E W (pt b (refObj vk vw D) :: row 9 1 vk D.kept.length (sects D.kept) :: row 120 2 vw D.wait.length (rwaits D.wait) :: L)) : Sat E W (isRef b D :: L) :=
  Sat.mkEx (A := fun p : Value × Value => seps [pt b (refObj p.1 p.2 D), row 9 1 p.1 D.kept.length (sects D.kept), row 120 2 p.2 D.wait.length (rwaits D.wait)]) (vk, vw) (Sat.pack [_, _, _] x)
theorem ref_cells {vk vw : Value} (x : Sat E W (pt b (refObj vk vw D) :: L)) : W.cell? ⟨b, 0, none⟩ = some vk ∧ W.cell? ⟨b, 1, none⟩ = some vw ∧ W.cell? ⟨b, 2, none⟩ = some (.int .i64 D.fuse) ∧ W.cell? ⟨b, 3, none⟩ = some (.bool D.dead) ∧
    W.cell? ⟨b, 4, none⟩ = some (.int .i64 D.writes) ∧ W.cell? ⟨b, 5, none⟩ = some (.int .i64 D.barriers) ∧ ∀ i, W.frozen? ⟨b, i, none⟩ = false :=
  ⟨cell_blk x.at 0, cell_blk x.at 1, cell_blk x.at 2, cell_blk x.at 3, cell_blk x.at 4, cell_blk x.at 5, fun i => frozen_blk x.at i⟩
end

theorem zeros_succ (n : Nat) : zeros n ++ ⟨#[0]⟩ = zeros (n + 1) := by
  apply ByteArray.ext
  simp [zeros, Array.replicate_succ]
def strV : Value → ByteArray | .string s => s | _ => ByteArray.empty

set_option maxRecDepth 100000 in
set_option maxHeartbeats 400000 in
theorem blank_ok (s : ByteArray) (W : World) (hs : s.size ≤ 9223372036854775807) : Calls Tryz.prog 69 #[.string s] W fun e w' => e = .returned (.string (pad s)) ∧ w' = W := by
  go_enter Tryz.func69, Tryz.ntmps69
  go_wp2
  go_loop [0] (fun v => ∃ k : Nat, v = .string (s ++ zeros k) ∧ (k = 0 ∨ s.size + k ≤ 128)) (fun v => 128 - (strV v).size)
  case atStart => exact ⟨0, by show Value.string s = .string (s ++ ByteArray.empty); rw [ByteArray.append_empty], .inl rfl⟩
  case round =>
    obtain ⟨k, rfl, hk⟩ := hrel
    have hz : (s ++ zeros k).size = s.size + k := by rw [ByteArray.size_append, zeros_size]
    obtain ⟨t, ht⟩ : ∃ t, s ++ zeros k = t := ⟨_, rfl⟩
    have HT := Lib.hid ht
    rw [ht] at hz ⊢
    have hm : t.size ≤ 9223372036854775807 := by omega
    have HZ := Lib.hid hz
    have HK := Lib.hid hk
    clear ht hz hk hs
    by_cases h1 : t.size < 128
    · go_wp2
      go_round
      case rel => exact ⟨k + 1, by rw [← HT.out, ByteArray.append_assoc, zeros_succ], .inr (by have := HZ.out; omega)⟩
      case measure => simp [strV, ByteArray.size_append]; first | omega | (show _ < _; have : (⟨#[0]⟩ : ByteArray).size = 1 := rfl; omega)
    · go_wp2
      go_ret
      refine ⟨retS ?_, rfl⟩
      unfold pad
      rw [← HT.out]
      have hz := HZ.out
      rcases HK.out with rfl | hk
      · rw [show 128 - s.size = 0 by omega]
      · rw [show 128 - s.size = k by omega]

theorem refburn_ok {E W : World} {L : List HP} {b : Nat} {D : Dk} (x : Sat E W (isRef b D :: L)) (hf : -1 ≤ D.fuse) (hf2 : D.fuse ≤ 9223372036854775807) : Calls Tryz.prog 74 #[.pointer (some ⟨b, 0, none⟩)] W fun e w' =>
    e = .returned (.bool (decide (D.fuse = 0))) ∧ Sat E w' (isRef b (burnD D) :: L) := by
  obtain ⟨ak, ck, aw, cw, hx, -, -⟩ := ref_open x
  obtain ⟨-, -, c2, c3, -, -, f⟩ := ref_cells hx
  have f2 := f 2
  have f3 := f 3
  clear f x
  obtain ⟨fu, hfu⟩ : ∃ fu, D.fuse = fu := ⟨_, rfl⟩
  rw [hfu] at c2 hf hf2 ⊢
  have HX := Lib.hid hx
  have HF := Lib.hid hfu
  clear hx hfu
  by_cases h0 : fu = 0
  · go_enter Tryz.func74, Tryz.ntmps74
    go_wp2
    go_ret
    refine ⟨retB (by simp [h0]), ?_⟩
    unfold burnD
    rw [if_pos (by rw [HF.out]; exact h0)]
    exact ref_close (HX.out.setCell 3 (.bool true))
  · have hb : (fu == 0) = false := beq_eq_false_iff_ne.2 h0
    by_cases h1 : 0 < fu
    · go_enter Tryz.func74, Tryz.ntmps74
      go_wp2
      go_ret
      refine ⟨retB (by first | rfl | exact (decide_eq_false h0).symm), ?_⟩
      unfold burnD
      rw [if_neg (by rw [HF.out]; exact h0)]
      have := HX.out.setCell 2 (.int .i64 (fu - 1))
      have e : fu - 1 = max (D.fuse - 1) (-1) := by rw [HF.out]; omega
      rw [e] at this ⊢
      exact ref_close this
    · go_enter Tryz.func74, Tryz.ntmps74
      go_wp2
      go_ret
      refine ⟨retB (by first | rfl | exact (decide_eq_false h0).symm), ?_⟩
      unfold burnD
      rw [if_neg (by rw [HF.out]; exact h0)]
      have e : max (D.fuse - 1) (-1) = D.fuse := by rw [HF.out]; omega
      rw [e]
      exact ref_close HX.out

end Go.Proofs.YtmkpglabiikdeaaGreatDoor

