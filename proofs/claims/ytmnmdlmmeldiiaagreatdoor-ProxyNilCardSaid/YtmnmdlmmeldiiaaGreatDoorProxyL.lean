/-
  Layer 32: the law ProxyNil, walked.
-/
import Derived.Test.YtmnmdlmmeldiiaaGreatDoorProxyN
namespace Go.Proofs.YtmnmdlmmeldiiaaGreatDoor
open Go.RowKit PH

def TrueBelow (w : World) (e : Ending) (w' : World) : Prop := e = .returned (.bool true) ∧ Below w.heap.size w w'
theorem to_known {W w w' : World} {L : List HP} (x : Sat W w (heapIs W :: L)) (hb : Below w.heap.size w w') : Below W.heap.size W w' := (x.ofBelow hb).below
/-- The listed variable, as it stands. -/
def NoneIs (w : World) : Prop := ∃ e, w.heap[0]? = some (.cells #[.int .i64 0, .int .i64 0, .int .i64 0] e (0, 0))
theorem NoneIs.kept {W w : World} {L : List HP} (h : NoneIs W) (x : Sat W w (heapIs W :: L)) : NoneIs w := by
  obtain ⟨e, he⟩ := h
  exact ⟨e, (x.same (Array.getElem?_eq_some_iff.1 he).1).trans he⟩
def KnownOk : Prop := ∀ W, NoneIs W → Calls Tryz.prog 4 #[] W fun e w' => e = .returned (.bool true) ∧ Below W.heap.size W w'
set_option maxRecDepth 100000 in
set_option maxHeartbeats 800000 in
theorem proxyNil_of (known : KnownOk) (a b now : Int) (s : ByteArray) (k : Option Addr) (len cap : Nat) (W : World) (hn : NoneIs W) (hs : s.size ≤ 9223372036854775807) : Calls Tryz.prog 3 #[.agg #[.int .i64 a, .int .i64 b, .string s], .int .i64 now, .slice k len cap] W (TrueBelow W) := by
  have HN := Lib.hid hn
  clear hn
  have HX0 := Lib.hid ((Sat.start W).alloc (.cells #[.int .i64 a, .int .i64 b, .string s] 23)).tail
  by_cases h1 : 2100 < s.size
  · go_enter Tryz.func3, Tryz.ntmps3
    go_wp2_with (go_at_call 4; refine (known _ (HN.out.kept HX0.out)).mono ?_; rintro e w' ⟨rfl, hb⟩)
    go_ret
    exact ⟨rfl, to_known HX0.out hb⟩
  · by_cases h2 : 60 < len
    · go_enter Tryz.func3, Tryz.ntmps3
      go_wp2_with (go_at_call 4; refine (known _ (HN.out.kept HX0.out)).mono ?_; rintro e w' ⟨rfl, hb⟩)
      go_ret
      exact ⟨rfl, to_known HX0.out hb⟩
    · go_enter Tryz.func3, Tryz.ntmps3
      go_wp2_with (first
        | (go_at_call 5; with_reducible refine (take_nil HX0.out _ _ _ _).mono ?_; rintro e w1 ⟨rfl, hx1⟩; have HX1 := Lib.hid hx1; clear hx1)
        | (go_at_call 6; with_reducible refine (tick_nil _ _).mono ?_; rintro e w2 ⟨rfl, rfl⟩)
        | (go_at_call 7; with_reducible refine (arm_nil _ _).mono ?_; rintro e w3 ⟨rfl, rfl⟩)
        | (go_at_call 8; with_reducible refine (crash_nil _ _).mono ?_; rintro e w4 ⟨rfl, rfl⟩)
        | (go_at_call 9; refine (pblock_nil _ _ _).mono ?_; rintro e w5 ⟨rfl, rfl⟩)
        | (go_at_call 11; refine (config_nil HX1.out).mono ?_; rintro e w6 ⟨rfl, hx6⟩; have HX6 := Lib.hid hx6; clear hx6)
        | (go_at_call 10; refine (new_nil (HX6.out.alloc _).tail _ _ _).mono ?_; rintro e w7 ⟨rfl, hx7⟩; have HX7 := Lib.hid hx7; clear hx7)
        | (go_at_call 12; refine (up_nil _).mono ?_; rintro e w8 ⟨rfl, rfl⟩)
        | (go_at_call 13; with_reducible refine (start_nil _).mono ?_; rintro e w9 ⟨rfl, rfl⟩)
        | (go_at_call 14; with_reducible refine (pepoch_nil _).mono ?_; rintro e w10 ⟨rfl, rfl⟩)
        | (go_at_call 15; with_reducible refine (waiting_nil _).mono ?_; rintro e w11 ⟨rfl, rfl⟩)
        | (go_at_call 16; with_reducible refine (pcache_nil HX7.out).mono ?_; rintro e w12 ⟨rfl, hx12⟩; have HX12 := Lib.hid hx12; clear hx12)
        | (simp only [run_fieldCache, Result.andThen_ok]; go_simp)
        | (go_at_call 4; refine (known _ (HN.out.kept HX12.out)).mono ?_; rintro e w' ⟨rfl, hb⟩))
      go_ret
      exact ⟨rfl, to_known HX12.out hb⟩
end Go.Proofs.YtmnmdlmmeldiiaaGreatDoor
