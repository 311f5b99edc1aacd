/-
  Layer 31: the document's Large of one step, whose cells stand unread.
-/
import Derived.Test.YtmpfckdagibfiaaGreatDoorLarge
import Derived.Test.YtmpfckdagibfiaaGreatDoorOpq
import Derived.RangeFuncNested
import Derived.RangeFuncBound
import Derived.OwnWalkIn
import Derived.TacticsInMore
import Derived.OrdersIn
namespace Go.Proofs.YtmpfckdagibfiaaGreatDoor
open Go.RowKit PH

theorem EntSrc.kept {E w : World} {a : Option Addr} {len : Nat} (h : EntSrc E a len) (hb : Below E.heap.size E w) : EntSrc w a len := fun k hk => by
  obtain ⟨b, p, s, t, h1, h2, h3, h4⟩ := h k hk
  exact ⟨b, p, s, t, h1, PH.kept hb h2, PH.kept hb h3, h4⟩
/-- A step's cells: a call's, a reply's, two numbers, a slice. -/
structure StepL (S C R : List Value) (n m : Int) (u : Option Addr) (ul uc : Nat) : Prop where
  all : S.length = 85
  cl : C.length = 24
  rl : R.length = 58
  c : ∀ (j : Nat) v, C[j]? = some v → S[j]? = some v
  r : ∀ (j : Nat) v, R[j]? = some v → S[24 + j]? = some v
  n : S[82]? = some (.int .i64 n)
  m : S[83]? = some (.int .i64 m)
  u : S[84]? = some (.slice u ul uc)
theorem range_blk {w : World} {g : Nat} {S C : List Value} {t : TypeId} {f : Nat × Nat} {off : Nat} (h : w.heap[g]? = some (.cells S.toArray t f)) (hc : ∀ (j : Nat) v, C[j]? = some v → S[off + j]? = some v) : w.rangeAt g off C := fun j v hj => by
  rw [cell_blk h]
  simpa using hc j v hj
def CallL (C : List Value) : Prop := ∀ (E W : World) (L : List HP), Sat E W L → Calls Tryz.prog 7 #[.agg C.toArray] W fun e w' => AnyB e ∧ Sat E w' L
def ReplyL (R : List Value) (en : Option Addr) (enl : Nat) : Prop := ∀ (E W : World) (L : List HP), Sat E W L → EntSrc W en enl → Calls Tryz.prog 8 #[.agg R.toArray] W fun e w' => AnyB e ∧ Sat E w' L
set_option maxRecDepth 100000 in
set_option maxHeartbeats 1600000 in
theorem large31 {E W : World} {L : List HP} {g : Nat} {S C R : List Value} {n m : Int} {u en : Option Addr} {ul uc enl : Nat} (hS : StepL S C R n m u ul uc) (hcl : CallL C) (hrl : ReplyL R en enl) (x : Sat E W (heapIs E :: pt g (.cells S.toArray 41) :: L)) (he : EntSrc E en enl) (hu : ul ≤ 9223372036854775807) :
    Calls Tryz.prog 4 #[.slice (some ⟨g, 0, none⟩) 1 1] W fun e w' => AnyB e ∧ Sat E w' (heapIs E :: pt g (.cells S.toArray 41) :: L) := by
  have HX := Lib.hid x
  have HE := Lib.hid he
  have HS := Lib.hid hS
  have hc24 : (Tryz.prog.info? 27).map (·.size) = some C.length := by rw [hS.cl]; kernel_rfl
  have hr58 : (Tryz.prog.info? 38).map (·.size) = some R.length := by rw [hS.rl]; kernel_rfl
  clear x he hS
  go_enter Tryz.func4, Tryz.ntmps4
  go_wp2
  go_loopw [3] (fun i wr => ∃ k : Nat, k ≤ 1 ∧ i = .int .i64 k ∧ Sat E wr (heapIs E :: pt g (.cells S.toArray 41) :: L)) (fun i _ => 60 - (intOf i).toNat)
  case atStart => exact ⟨0, by omega, rfl, HX.out⟩
  case round =>
    obtain ⟨k, hk, rfl, hx⟩ := hrel
    by_cases h1 : k < 1
    · obtain rfl : k = 0 := by omega
      have rc : wr.rangeAt g 0 C := range_blk hx.p1.at (fun j v hj => by rw [Nat.zero_add]; exact HS.out.c j v hj)
      have HX1 := Lib.hid hx
      clear hx
      go_wp2_with (first
        | (with_reducible refine wpl_load 27 g 0 C _ ?_ rc Tryz.underlying27 rfl hc24 ?_)
        | (with_reducible refine wpl_loadG 38 g 24 R _ rr Tryz.underlying38 rfl hr58 ?_ ?_ ?_)
        | (go_at_call 7; refine (hcl _ _ _ HX1.out).mono ?_; rintro e w2 ⟨⟨b2, rfl⟩, hx2⟩; have rr : w2.rangeAt g 24 R := range_blk hx2.p1.at (fun j v hj => HS.out.r j v hj); have HX2 := Lib.hid hx2; clear hx2)
        | (go_at_call 8; refine (hrl _ _ _ HX2.out (HE.out.kept HX2.out.below)).mono ?_; rintro e w3 ⟨⟨b3, rfl⟩, hx3⟩; have c84 : w3.cell? ⟨g, 84, none⟩ = some (.slice u ul uc) := (by rw [cell_blk hx3.p1.at]; simpa using HS.out.u); have HX3 := Lib.hid hx3; clear hx3))
      all_goals first
        | (go_ret; exact ⟨⟨_, rfl⟩, HX3.out⟩)
        | (go_ret; exact ⟨⟨_, rfl⟩, HX2.out⟩)
        | (refine ⟨⟨1, by omega, by go_num, HX3.out⟩, by simp [intOf]⟩)
        | rfl
    · have HX1 := Lib.hid hx
      clear hx
      go_wp2
      all_goals (go_ret; exact ⟨⟨_, rfl⟩, HX1.out⟩)
end Go.Proofs.YtmpfckdagibfiaaGreatDoor
