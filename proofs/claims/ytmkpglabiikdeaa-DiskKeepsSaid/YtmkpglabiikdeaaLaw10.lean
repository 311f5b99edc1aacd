/-
  Layer 10: Large and Same; the law DiskNil, walked.
-/
import Derived.Test.YtmkpglabiikdeaaRefC
import Derived.Test.YtmkpglabiikdeaaOpenSteps
namespace Go.Proofs.Ytmkpglabiikdeaa
open Go.RowKit PH

def TrueBelow (w : World) (e : Ending) (w' : World) : Prop := e = .returned (.bool true) ∧ Below w.heap.size w w'

/-- A step that is not too long. -/
def small (x : Sq) : Bool := decide (x.t.s.size ≤ 200) && decide (x.t.keep.length ≤ 60)
def bigL (l : List Sq) : Bool := !(decide (l.length ≤ 60) && l.all small)
theorem bigL_no {l : List Sq} (h : bigL l = false) : l.length ≤ 60 ∧ ∀ x ∈ l, x.t.s.size ≤ 200 ∧ x.t.keep.length ≤ 60 := by
  unfold bigL at h
  simp only [Bool.not_eq_false', Bool.and_eq_true, decide_eq_true_eq, List.all_eq_true] at h
  refine ⟨h.1, fun x hx => ?_⟩
  have := h.2 x hx
  unfold small at this
  simpa using this
theorem bigL_yes {l : List Sq} {x : Sq} (hx : x ∈ l) (h : small x = false) : bigL l = true := by
  unfold bigL
  have : l.all small = false := List.all_eq_false.2 ⟨x, hx, by simp [h]⟩
  rw [this]; simp
theorem bigL_all {l : List Sq} {k : Nat} (h : ∀ j, j < k → ∀ p, l[j]? = some p → small p = true) (hk : l.length ≤ k ∨ 60 ≤ k) : bigL l = decide (60 < l.length) := by
  by_cases hl : l.length ≤ 60
  · have : l.all small = true := List.all_eq_true.2 fun x hx => by
      obtain ⟨j, hj⟩ := List.getElem?_of_mem hx
      exact h j (by have := (List.getElem?_eq_some_iff.1 hj).1; omega) x hj
    unfold bigL
    rw [this]; simp [hl]
  · unfold bigL
    simp [hl]; omega

set_option maxRecDepth 100000 in
set_option maxHeartbeats 400000 in
theorem large10_ok {w : World} {a : Option Addr} {c : Nat} {l : List Sq} (h : Sees w a (sqs l)) (hl : l.length ≤ 9223372036854775807) (hsz : ∀ x ∈ l, x.t.s.size ≤ 9223372036854775807 ∧ x.t.keep.length ≤ 9223372036854775807) :
    Calls Try.prog 26 #[.slice a l.length c] w fun e w' => e = .returned (.bool (bigL l)) ∧ w' = w := by
  obtain ⟨n, hn⟩ : ∃ n, l.length = n := ⟨_, rfl⟩
  have HN := Lib.hid hn
  have HS := Lib.hid h
  have HSZ := Lib.hid hsz
  rw [hn] at hl ⊢
  clear hn h hsz
  obtain ⟨r, hr⟩ : ∃ r, bigL l = r := ⟨_, rfl⟩
  rw [hr]
  have HR := Lib.hid hr
  clear hr
  go_enter Try.func26, Try.ntmps26
  go_wp2
  go_loop [3] (fun i => ∃ k : Nat, k ≤ n ∧ k ≤ 60 ∧ i = .int .i64 k ∧ Hid (∀ j, j < k → ∀ p, l[j]? = some p → small p = true)) (fun i => 60 - (intOf i).toNat)
  case atStart => exact ⟨0, by omega, by omega, rfl, Lib.hid fun j hj => by omega⟩
  case round =>
    obtain ⟨k, hk, hk7, rfl, HNO⟩ := hrel
    by_cases h1 : k < n
    · by_cases h2 : k < 60
      · obtain ⟨x, hx⟩ : ∃ x, l[k]? = some x := ⟨_, List.getElem?_eq_getElem (by rw [HN.out]; exact h1)⟩
        obtain ⟨b, off, rfl, c0, c1, c2, c3⟩ := HS.out.step hx
        obtain ⟨z1, z2⟩ := HSZ.out x (List.mem_of_getElem? hx)
        obtain ⟨⟨kd, i0, s, zs⟩, ax, cx⟩ := x
        dsimp only at c0 c1 c2 c3 z1 z2
        have HXX := Lib.hid hx
        clear hx
        by_cases h3 : 200 < s.size
        · go_wp2
          go_ret
          exact ⟨retB ((bigL_yes (List.mem_of_getElem? HXX.out) (by simp [small]; omega)).symm.trans HR.out), rfl⟩
        · by_cases h4 : 60 < zs.length
          · go_wp2
            go_ret
            exact ⟨retB ((bigL_yes (List.mem_of_getElem? HXX.out) (by simp [small]; omega)).symm.trans HR.out), rfl⟩
          · go_wp2
            go_round
            case rel => exact ⟨k + 1, by omega, by omega, by go_num, Lib.hid fun j hj p hp => by
              rcases Nat.lt_or_ge j k with h' | h'
              · exact HNO.out j h' p hp
              · obtain rfl : j = k := by omega
                rw [HXX.out] at hp; cases hp; simp [small]; omega⟩
            case measure => simp [intOf]; omega
      · go_wp2
        go_ret
        refine ⟨retB ?_, rfl⟩
        rw [← HR.out, bigL_all HNO.out (.inr (by omega)), HN.out]
        simp; omega
    · go_wp2
      go_ret
      refine ⟨retB ?_, rfl⟩
      rw [← HR.out, bigL_all HNO.out (.inl (by rw [HN.out]; omega)), HN.out]
      simp; omega

/-- A disk that nothing made. -/
def noD : Dk := { kept := [], wait := [], fuse := 0, dead := false, writes := 0, barriers := 0 }
theorem noD_ok : OkD noD := ⟨by show (-1 : Int) ≤ 0; omega, by show (0 : Int) ≤ _; omega, by show (0 : Int) ≤ 0; omega, by show (0 : Int) ≤ _; omega, by show (0 : Int) ≤ 0; omega, by show (0 : Int) ≤ _; omega, by show 0 ≤ _; omega, by show 0 ≤ _; omega, fun x hx => by simp [noD] at hx⟩
theorem noD_alive : aliveE noD = 1 := rfl
theorem noD_there (i : Int) : thereE noD i = 1 := rfl
theorem noD_doS (t : St) : doS noD t = ByteArray.empty := by
  unfold doS; split
  · rfl
  · unfold readS; rw [noD_there]; rfl
theorem noD_doE (t : St) : doE noD t = 1 := by
  unfold doE
  repeat' split
  all_goals rfl
theorem noD_doD (t : St) : doD noD t = noD := by
  unfold doD
  repeat' split
  · unfold writeD; rw [if_neg (by rw [noD_there]; exact fun h => absurd h.1 (by decide))]
  all_goals rfl

/-- What stands behind Large. -/
theorem diskNil_known {W w w' : World} {L : List HP} (x : Sat W w (heapIs W :: L)) (hb : Below w.heap.size w w') : Below W.heap.size W w' := (x.ofBelow hb).below

set_option maxRecDepth 100000 in
set_option maxHeartbeats 800000 in
theorem diskNil_ok {W : World} {t : St} {a : Option Addr} {c : Nat} (made : Bool) (hsee : SeesI W a t.keep) (hs : t.s.size ≤ 9223372036854775807) (hk : t.keep.length ≤ 9223372036854775807) :
    Calls Try.prog 8 #[t.val a c, .bool made] W (TrueBelow W) := by
  have HSEE := Lib.hid hsee
  clear hsee
  have hS : ∀ W', Sat W W' [heapIs W] → SeesI W' a t.keep := fun W' h => HSEE.out.kept h.below
  have HS := Lib.hid hS
  clear hS
  have h0 := (((Sat.start W).alloc (.cells #[.int .i64 t.kind, .int .i64 t.i, .string t.s, .slice a t.keep.length c] 49)).alloc (.cells #[.int .i64 t.kind, .int .i64 t.i, .string t.s, .slice a t.keep.length c] 49))
  rw [World.size_alloc] at h0
  have hlr := large10_ok (w := (W.alloc (.cells #[.int .i64 t.kind, .int .i64 t.i, .string t.s, .slice a t.keep.length c] 49)).alloc (.cells #[.int .i64 t.kind, .int .i64 t.i, .string t.s, .slice a t.keep.length c] 49)) (a := some ⟨W.heap.size + 1, 0, none⟩) (c := 1) (l := [⟨t, a, c⟩])
    (fun j u hj => ⟨_, _, rfl, by rw [Nat.zero_add, cell_blk h0.at]; simpa [sqs, Sq.cells] using hj⟩) (by show 1 ≤ _; omega) (fun x hx => by rw [List.mem_singleton] at hx; subst hx; exact ⟨hs, hk⟩)
  obtain ⟨r, hr⟩ : ∃ r, bigL [⟨t, a, c⟩] = r := ⟨_, rfl⟩
  rw [hr] at hlr
  have HR := Lib.hid hr
  have HL := Lib.hid hlr
  have HX := Lib.hid h0
  clear h0 hlr hs hk hr
  cases made
  · unfold St.val
    cases r
    · obtain ⟨-, hsm⟩ := bigL_no HR.out
      obtain ⟨h1, h2⟩ := hsm _ (List.mem_singleton.2 rfl)
      have HD := Lib.hid (do_nil (a := a) (c := c) (t := t) HX.out (by show t.keep.length ≤ 1000; dsimp only at h2; omega) (fun W' h => HS.out W' h.tail.tail))
      unfold St.val at HD
      clear hsm h1 h2
      go_enter Try.func8, Try.ntmps8
      go_wp2_with (first
        | (go_at_call 26; refine HL.out.mono ?_; rintro e w2 ⟨rfl, rfl⟩)
        | (go_at_call 29; refine HD.out.mono ?_; rintro e w3 ⟨rfl, hx3⟩; have HX3 := Lib.hid hx3; clear hx3)
        | (go_at_call 39; refine count_nil.mono ?_; rintro e w2 ⟨rfl, rfl⟩)
        | (go_at_call 36; refine size_nil.mono ?_; rintro e w2 ⟨rfl, rfl⟩)
        | (go_at_call 40; refine dead_nil.mono ?_; rintro e w2 ⟨rfl, rfl⟩)
        | (go_at_call 41; refine waiting_nil.mono ?_; rintro e w2 ⟨rfl, rfl⟩)
        | (go_at_call 31; refine image_nil.mono ?_; rintro e w2 ⟨rfl, rfl⟩)
        | (go_at_call 27; refine (knownD_ok _).mono ?_; rintro e w2 ⟨rfl, hb⟩))
      go_ret
      exact ⟨rfl, diskNil_known HX3.out.p2 hb⟩
    · go_enter Try.func8, Try.ntmps8
      go_wp2_with (first | (go_at_call 26; refine HL.out.mono ?_; rintro e w2 ⟨rfl, rfl⟩) | (go_at_call 27; refine (knownD_ok _).mono ?_; rintro e w2 ⟨rfl, hb⟩))
      go_ret
      exact ⟨rfl, diskNil_known HX.out.p2 hb⟩
  · unfold St.val
    cases r
    · obtain ⟨-, hsm⟩ := bigL_no HR.out
      obtain ⟨h1, h2⟩ := hsm _ (List.mem_singleton.2 rfl)
      have hx2 := ((HX.out.rowNil 123 2).rowNil 116 1).alloc (diskObj (.slice none 0 0) (.slice none 0 0) noD)
      have hx2 := disk_close (D := noD) hx2
      rw [World.size_alloc, World.size_alloc] at hx2
      have HD := Lib.hid (do_ok (a := a) (c := c) (t := t) hx2 noD_ok (by show (0 : Int) < _; omega) (by dsimp only at h1; show t.s.size ≤ 1000; omega) (by show t.keep.length ≤ 1000; dsimp only at h2; omega) (fun W' h => HS.out W' h.tail.tail))
      rw [noD_doS, noD_doE, noD_doD] at HD
      unfold St.val at HD
      clear hsm h1 h2 hx2
      go_enter Try.func8, Try.ntmps8
      go_wp2_with (first
        | (go_at_call 26; refine HL.out.mono ?_; rintro e w2 ⟨rfl, rfl⟩)
        | (go_at_call 29; refine HD.out.mono ?_; rintro e w3 ⟨rfl, hx3⟩; have HX3 := Lib.hid hx3; clear hx3)
        | (go_at_call 39; refine (count0_ok HX3.out rfl).mono ?_; rintro e w2 ⟨rfl, rfl⟩)
        | (go_at_call 36; refine (size_ok HX3.out).mono ?_; rintro e w2 ⟨rfl, rfl⟩; rw [show ((noD.kept.length : Nat) : Int) = 0 from rfl])
        | (go_at_call 40; refine (dead_ok HX3.out).mono ?_; rintro e w2 ⟨rfl, rfl⟩; rw [show (madeB noD && noD.dead) = false from rfl])
        | (go_at_call 41; refine (waiting_ok HX3.out).mono ?_; rintro e w2 ⟨rfl, rfl⟩; rw [show (if madeB noD = true then ((noD.wait.length : Nat) : Int) else 0) = 0 from rfl])
        | (go_at_call 31; refine (image_ok HX3.out noD_ok).mono ?_; rintro e w4 ⟨v, rfl, hx4⟩; obtain ⟨a4, c4, rfl, -⟩ := rowSlice hx4; rw [show noD.kept.length = 0 from rfl]; have HX4 := Lib.hid hx4; clear hx4)
        | (go_at_call 27; refine (knownD_ok _).mono ?_; rintro e w2 ⟨rfl, hb⟩))
      go_ret
      exact ⟨rfl, diskNil_known HX4.out.p4 hb⟩
    · go_enter Try.func8, Try.ntmps8
      go_wp2_with (first | (go_at_call 26; refine HL.out.mono ?_; rintro e w2 ⟨rfl, rfl⟩) | (go_at_call 27; refine (knownD_ok _).mono ?_; rintro e w2 ⟨rfl, hb⟩))
      go_ret
      exact ⟨rfl, diskNil_known HX.out.p2 hb⟩
end Go.Proofs.Ytmkpglabiikdeaa
