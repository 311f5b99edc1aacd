/-
  The law PieceCuts, walked.
-/
import Derived.Test.YtmkpglabiikdeaaLaws11
namespace Go.Proofs.Ytmkpglabiikdeaa
open Go.RowKit PH

def TrueBelow (w : World) (e : Ending) (w' : World) : Prop := e = .returned (.bool true) ∧ Below w.heap.size w w'

theorem up {w w1 w2 : World} (h : Below w.heap.size w w1) (k : Below w1.heap.size w1 w2) : Below w.heap.size w w2 := h.trans (k.mono h.size)

set_option maxRecDepth 100000 in
set_option maxHeartbeats 800000 in
theorem pieceCuts_ok (s : ByteArray) (ep sq : Int) (w : World) (hs : s.size ≤ 9223372036854775807) : Calls Try.prog 3 #[.string s, .int .i64 ep, .int .i64 sq] w (TrueBelow w) := by
  by_cases h1 : 7000 < s.size
  · go_enter Try.func3, Try.ntmps3
    go_wp2_with (go_at_call 17; refine (known_ok _).mono ?_; rintro e w' ⟨rfl, hb⟩)
    go_ret
    exact ⟨rfl, hb⟩
  · by_cases h2 : 6400 < s.size
    · have hc : count (s.size : Int) = 0 := by unfold count; rw [if_pos (by omega)]
      go_enter Try.func3, Try.ntmps3
      go_wp2_with (first
        | (go_at_call 18; refine (cut_long s ep sq _ h2 hs).mono ?_; rintro e w1 ⟨a, c, rfl, hsee, hb, -⟩)
        | (go_at_call 19; refine (count_ok _ _).mono ?_; rintro e w2 ⟨rfl, rfl⟩; rw [hc])
        | (go_at_call 17; refine (known_ok _).mono ?_; rintro e w3 ⟨rfl, hb2⟩))
      go_ret
      exact ⟨rfl, up hb hb2⟩
    · obtain ⟨n, hn⟩ : ∃ n, nums ep sq = n := ⟨_, rfl⟩
      cases n
      · go_enter Try.func3, Try.ntmps3
        go_wp2_with (first
          | (go_at_call 18; refine (cut_nums s ep sq _ (by omega) hn).mono ?_; rintro e w1 ⟨a, c, rfl, hsee, hb, -⟩)
          | (go_at_call 20; refine (nums_ok _ _ _).mono ?_; rintro e w2 ⟨rfl, rfl⟩; rw [hn])
          | (go_at_call 17; refine (known_ok _).mono ?_; rintro e w3 ⟨rfl, hb2⟩))
        go_ret
        exact ⟨rfl, up hb hb2⟩
      · have hj := joined_cut s ep sq (by omega) hn
        have hje := joinErr_cut s ep sq (by omega) hn
        have hd := cutL_data s ep sq
        have hp : npc s.size ≤ 64 := by unfold npc; omega
        have hl := cutL_len s ep sq
        have hcnt : count (s.size : Int) = (npc s.size : Int) := by unfold count npc; rw [if_neg (by omega)]; omega
        obtain ⟨l, hll⟩ : ∃ l, cutL s ep sq = l := ⟨_, rfl⟩
        have hcut := cut_ok s ep sq
        have hcut2 := refCut_ok s ep sq
        rw [hll] at hj hje hd hl hcut hcut2
        have HJ := Lib.hid hj
        have HJE := Lib.hid hje
        have HD := Lib.hid hd
        have HC := Lib.hid hcut
        have HC2 := Lib.hid hcut2
        have HCN := Lib.hid hcnt
        have HL := Lib.hid hl
        have hl64 : l.length ≤ 64 := by omega
        clear hj hje hd hcut hcut2 hll hcnt hl
        go_enter Try.func3, Try.ntmps3
        go_wp2_with (first
          | (go_at_call 18; refine (HC.out _ (by omega) hn).mono ?_; rintro e w1 ⟨a, c, rfl, hsee, hb, -⟩; have HSEE := Lib.hid hsee; have HB := Lib.hid hb; clear hsee hb)
          | (go_at_call 20; refine (nums_ok _ _ _).mono ?_; rintro e w2 ⟨rfl, rfl⟩; rw [hn])
          | (go_at_call 21; refine (join_ok HSEE.out (by omega) HD.out).mono ?_; rintro e w2 ⟨rfl, hb2⟩; rw [HJ.out, HJE.out]; have HB2 := Lib.hid hb2; clear hb2)
          | (go_at_call 23; refine (HC2.out _ (by omega)).mono ?_; rintro e w3 ⟨a3, c3, rfl, hsee3, hb3⟩; have HSEE3 := Lib.hid hsee3; have HB3 := Lib.hid hb3; clear hsee3 hb3)
          | (go_at_call 22; refine (refSame_ok ((HSEE.out.of_below HB2.out).of_below HB3.out) HSEE3.out (by omega) (by omega)).mono ?_; rintro e w4 ⟨rfl, hb4⟩; rw [decide_eq_true rfl]; have HB4 := Lib.hid hb4; clear hb4)
          | (go_at_call 19; refine (count_ok _ _).mono ?_; rintro e w2 ⟨rfl, rfl⟩; rw [HCN.out, ← HL.out])
          | (go_at_call 17; refine (known_ok _).mono ?_; rintro e w5 ⟨rfl, hb5⟩))
        go_ret
        exact ⟨rfl, up (up (up (up HB.out HB2.out) HB3.out) HB4.out) hb5⟩
end Go.Proofs.Ytmkpglabiikdeaa
