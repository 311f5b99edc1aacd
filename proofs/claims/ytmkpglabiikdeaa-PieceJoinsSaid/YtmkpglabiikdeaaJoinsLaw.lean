/-
  The law PieceJoins, walked.
-/
import Derived.Test.YtmkpglabiikdeaaCutsLaw
namespace Go.Proofs.Ytmkpglabiikdeaa
open Go.RowKit PH

theorem bigs_false {l : List Pc} (h : bigs l = false) : l.length ≤ 70 ∧ ∀ p ∈ l, p.data.size ≤ 200 := by
  unfold bigs at h
  rw [Bool.or_eq_false_iff] at h
  obtain ⟨h1, h2⟩ := h
  have hl : l.length ≤ 70 := by simpa using h2
  refine ⟨hl, fun p hp => ?_⟩
  rw [List.take_of_length_le hl, List.any_eq_false] at h1
  simpa using h1 p hp

set_option maxRecDepth 100000 in
set_option maxHeartbeats 800000 in
theorem pieceJoins_ok {w : World} {a : Option Addr} {c : Nat} {l : List Pc} (h : Sees w a (pcs l)) (hn : l.length ≤ 9223372036854775807) (n : Int) :
    Calls Try.prog 4 #[.slice a l.length c, .int .i64 n] w (TrueBelow w) := by
  obtain ⟨bl, hbl⟩ : ∃ bl, bigs l = bl := ⟨_, rfl⟩
  have hlarge := large_ok (c := c) h hn
  rw [hbl] at hlarge
  have HL := Lib.hid hlarge
  clear hlarge
  cases bl
  · obtain ⟨h70, hd⟩ := bigs_false hbl
    have hd2 : ∀ p ∈ l, p.data.size ≤ 1000 := fun p hp => Nat.le_trans (hd p hp) (by omega)
    have HSEE := Lib.hid h
    have HD := Lib.hid hd2
    clear hd hd2 h hbl
    obtain ⟨s, hs⟩ : ∃ s, joined l = s := ⟨_, rfl⟩
    obtain ⟨wb, hwb⟩ : ∃ wb, whole l = wb := ⟨_, rfl⟩
    have HS := Lib.hid hs
    have HW := Lib.hid hwb
    clear hs hwb
    have hje : joinErr l = if wb then 0 else 14 := by rw [← HW.out]; rfl
    have HJE := Lib.hid hje
    clear hje
    have hfs : wb = false → s = ByteArray.empty := fun e => by rw [← HS.out]; unfold joined; rw [HW.out, e]; rfl
    have HFS := Lib.hid hfs
    clear hfs
    obtain ⟨cn, hcn⟩ : ∃ cn, count n = cn := ⟨_, rfl⟩
    have HCN := Lib.hid hcn
    clear hcn
    cases wb
    · have hse := HFS.out rfl
      have HSE := Lib.hid hse
      clear hse
      by_cases hr : 0 ≤ n ∧ n ≤ 6400
      · obtain ⟨hr1, hr2⟩ := hr
        have hcn2 : cn = max 1 ((n + 99) / 100) := by rw [← HCN.out]; unfold count; rw [if_neg (by omega)]
        have HCN2 := Lib.hid hcn2
        clear hcn2
        go_enter Try.func4, Try.ntmps4
        go_wp2_with (first
          | (go_at_call 24; refine HL.out.mono ?_; rintro e w2 ⟨rfl, rfl⟩)
          | (go_at_call 21; refine (join_ok HSEE.out (by omega) HD.out).mono ?_; rintro e w2 ⟨rfl, hb2⟩; rw [HS.out, HJE.out]; rw [HSE.out]; have HB2 := Lib.hid hb2; clear hb2)
          | (go_at_call 25; refine (refJoin_ok (HSEE.out.of_below HB2.out) (by omega) HD.out).mono ?_; rintro e w3 ⟨rfl, hb3⟩; rw [HS.out, HW.out]; rw [HSE.out]; have HB3 := Lib.hid hb3; clear hb3)
          | (go_at_call 19; refine (count_ok _ _).mono ?_; rintro e w4 ⟨rfl, rfl⟩; rw [HCN.out, HCN2.out])
          | (go_at_call 17; refine (known_ok _).mono ?_; rintro e w5 ⟨rfl, hb5⟩))
        go_ret
        exact ⟨rfl, up (up HB2.out HB3.out) hb5⟩
      · have hcn2 : cn = 0 := by rw [← HCN.out]; unfold count; rw [if_pos (by omega)]
        have HCN2 := Lib.hid hcn2
        clear hcn2
        go_enter Try.func4, Try.ntmps4
        go_wp2_with (first
          | (go_at_call 24; refine HL.out.mono ?_; rintro e w2 ⟨rfl, rfl⟩)
          | (go_at_call 21; refine (join_ok HSEE.out (by omega) HD.out).mono ?_; rintro e w2 ⟨rfl, hb2⟩; rw [HS.out, HJE.out]; rw [HSE.out]; have HB2 := Lib.hid hb2; clear hb2)
          | (go_at_call 25; refine (refJoin_ok (HSEE.out.of_below HB2.out) (by omega) HD.out).mono ?_; rintro e w3 ⟨rfl, hb3⟩; rw [HS.out, HW.out]; rw [HSE.out]; have HB3 := Lib.hid hb3; clear hb3)
          | (go_at_call 19; refine (count_ok _ _).mono ?_; rintro e w4 ⟨rfl, rfl⟩; rw [HCN.out, HCN2.out])
          | (go_at_call 17; refine (known_ok _).mono ?_; rintro e w5 ⟨rfl, hb5⟩))
        all_goals go_ret
        all_goals exact ⟨rfl, up (up HB2.out HB3.out) hb5⟩
    · by_cases hr : 0 ≤ n ∧ n ≤ 6400
      · obtain ⟨hr1, hr2⟩ := hr
        have hcn2 : cn = max 1 ((n + 99) / 100) := by rw [← HCN.out]; unfold count; rw [if_neg (by omega)]
        have HCN2 := Lib.hid hcn2
        clear hcn2
        go_enter Try.func4, Try.ntmps4
        go_wp2_with (first
          | (go_at_call 24; refine HL.out.mono ?_; rintro e w2 ⟨rfl, rfl⟩)
          | (go_at_call 21; refine (join_ok HSEE.out (by omega) HD.out).mono ?_; rintro e w2 ⟨rfl, hb2⟩; rw [HS.out, HJE.out]; have HB2 := Lib.hid hb2; clear hb2)
          | (go_at_call 25; refine (refJoin_ok (HSEE.out.of_below HB2.out) (by omega) HD.out).mono ?_; rintro e w3 ⟨rfl, hb3⟩; rw [HS.out, HW.out]; have HB3 := Lib.hid hb3; clear hb3)
          | (go_at_call 19; refine (count_ok _ _).mono ?_; rintro e w4 ⟨rfl, rfl⟩; rw [HCN.out, HCN2.out])
          | (go_at_call 17; refine (known_ok _).mono ?_; rintro e w5 ⟨rfl, hb5⟩))
        go_ret
        exact ⟨rfl, up (up HB2.out HB3.out) hb5⟩
      · have hcn2 : cn = 0 := by rw [← HCN.out]; unfold count; rw [if_pos (by omega)]
        have HCN2 := Lib.hid hcn2
        clear hcn2
        go_enter Try.func4, Try.ntmps4
        go_wp2_with (first
          | (go_at_call 24; refine HL.out.mono ?_; rintro e w2 ⟨rfl, rfl⟩)
          | (go_at_call 21; refine (join_ok HSEE.out (by omega) HD.out).mono ?_; rintro e w2 ⟨rfl, hb2⟩; rw [HS.out, HJE.out]; have HB2 := Lib.hid hb2; clear hb2)
          | (go_at_call 25; refine (refJoin_ok (HSEE.out.of_below HB2.out) (by omega) HD.out).mono ?_; rintro e w3 ⟨rfl, hb3⟩; rw [HS.out, HW.out]; have HB3 := Lib.hid hb3; clear hb3)
          | (go_at_call 19; refine (count_ok _ _).mono ?_; rintro e w4 ⟨rfl, rfl⟩; rw [HCN.out, HCN2.out])
          | (go_at_call 17; refine (known_ok _).mono ?_; rintro e w5 ⟨rfl, hb5⟩))
        all_goals go_ret
        all_goals exact ⟨rfl, up (up HB2.out HB3.out) hb5⟩
  · clear hbl
    go_enter Try.func4, Try.ntmps4
    go_wp2_with (first
      | (go_at_call 24; refine HL.out.mono ?_; rintro e w2 ⟨rfl, rfl⟩)
      | (go_at_call 17; refine (known_ok _).mono ?_; rintro e w5 ⟨rfl, hb5⟩))
    go_ret
    exact ⟨rfl, hb5⟩
end Go.Proofs.Ytmkpglabiikdeaa
