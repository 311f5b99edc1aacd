/-
  Layer 13: HeadSpoilt, walked.
-/
import Derived.Laws.BitsAllLaws
import Derived.Stop.BytesEq
import Derived.Test.YtmkpglabiikdeaaHeadL
namespace Go.Proofs.Ytmkpglabiikdeaa
open Go.RowKit PH

/-- A block of bytes of which the first n are those that f says. -/
def bytesN (g n : Nat) (f : Nat → Nat) : HP := ex fun c : Array Value => seps [fact (n ≤ c.size ∧ ∀ i, i < n → c[i]? = some (.int .u8 (f i : Nat))), pt g (.cells c 5 (c.size, c.size + 1))]
section
variable {E w : World} {L : List HP} {g n : Nat} {f : Nat → Nat}
theorem bytesN_open (x : Sat E w (bytesN g n f :: L)) : ∃ c : Array Value, (n ≤ c.size ∧ ∀ i, i < n → c[i]? = some (.int .u8 (f i : Nat))) ∧ Sat E w (pt g (.cells c 5 (c.size, c.size + 1)) :: L) := by
  obtain ⟨c, hx⟩ := x.ex
  obtain ⟨h, hx⟩ := hx.flat.fact
  exact ⟨c, h, hx⟩
theorem bytesN_close {c : Array Value} {fz : Nat × Nat} (x : Sat E w (pt g (.cells c 5 fz) :: L)) (hz : fz = (c.size, c.size + 1)) (h : n ≤ c.size ∧ ∀ i, i < n → c[i]? = some (.int .u8 (f i : Nat))) : Sat E w (bytesN g n f :: L) := by
  subst hz
  exact Sat.mkEx (A := fun c : Array Value => seps [fact (n ≤ c.size ∧ ∀ i, i < n → c[i]? = some (.int .u8 (f i : Nat))), pt g (.cells c 5 (c.size, c.size + 1))]) c (Sat.pack [_, _] (Sat.mkFact h x))
theorem bytesN_get (x : Sat E w (bytesN g n f :: L)) {i : Nat} (h : i < n) : w.cell? ⟨g, i, none⟩ = some (.int .u8 (f i : Nat)) := by
  obtain ⟨c, hc, hx⟩ := bytesN_open x
  rw [cell_blk hx.at]
  exact hc.2 i h
theorem bytesN_free (x : Sat E w (bytesN g n f :: L)) {i : Nat} (h : i < n) : w.frozen? ⟨g, i, none⟩ = false := by
  obtain ⟨c, hc, hx⟩ := bytesN_open x
  have := hx.at
  have hlt : ¬ c.size ≤ i := by omega
  simp [World.frozen?, this, hlt]
theorem bytesN_set (x : Sat E w (bytesN g n f :: L)) {i : Nat} (h : i < n) (v : Nat) : Sat E (w.setCell ⟨g, i, none⟩ (.int .u8 (v : Nat))) (bytesN g n (fun j => if j = i then v else f j) :: L) := by
  obtain ⟨c, hc, hx⟩ := bytesN_open x
  refine bytesN_close (hx.setCell i (.int .u8 (v : Nat))) (by simp) ⟨by simpa using hc.1, fun j hj => ?_⟩
  rw [Array.getElem?_setIfInBounds]
  by_cases e : j = i
  · subst e
    rw [if_pos rfl, if_pos (by omega), if_pos rfl]
  · rw [if_neg (fun h => e h.symm), if_neg e]
    exact hc.2 j hj
theorem bytesN_of {S : ByteArray} (x : Sat E w (bytesAt g S :: L)) : Sat E w (bytesN g S.size (byt S) :: L) := by
  have x2 : Sat E w (ex (fun cap : Nat => pt g (.cells (bytesRow S cap) 5 ((bytesRow S cap).size, (bytesRow S cap).size + 1))) :: L) := x.head fun k ⟨cap, hc⟩ => ⟨cap, hc⟩
  obtain ⟨cap, hx⟩ := x2.ex
  refine bytesN_close hx rfl ⟨?_, fun i hi => ?_⟩
  · unfold bytesRow
    rw [Array.size_append, Array.size_map]
    exact Nat.le_add_right _ _
  · rw [bytesRow_at S cap i hi]
    unfold byt
    rw [dif_pos hi]
    rfl
theorem bytesN_conv {S : ByteArray} {cap : Nat} (x : Sat E w (bytesN g n f :: L)) (hS : S.size = n) (hf : ∀ i, i < n → f i = byt S i) :
    (convert 96 9 (.slice (some ⟨g, 0, none⟩) n cap)).run Try.prog w = .ok (.string S) w := by
  have := run_convert_bytes_arg (P := Try.prog) w 96 5 Try.underlying96 Try.underlying5 g 0 n cap ((lst S).map fun c : Nat => (c : Int)) (by simp [lst_len, hS]) (fun i hi => by
    have hi2 : i < (lst S).length := by rw [lst_len, hS]; exact hi
    rw [Nat.zero_add, bytesN_get x hi, hf i hi]
    have := lst_get S (i := i) (by omega)
    rw [List.getElem?_eq_getElem hi2] at this
    simp [List.getD, List.getElem?_eq_getElem hi2, Option.some.inj this]) 9 Try.underlying9
  rw [strOfNums_bs, bs_lst] at this
  exact this
end
/-- The bytes behind k rounds. -/
def spF (T : ByteArray) (a : Nat) (x : Nat → Nat) (k i : Nat) : Nat := if a ≤ i ∧ i < a + k then byt T i ^^^ x (i - a) else byt T i
theorem spF_lt (T : ByteArray) (a : Nat) {x : Nat → Nat} (hx : ∀ j, x j < 256) (k i : Nat) : spF T a x k i < 256 := by
  unfold spF
  split
  · exact xor_lt8 (byt_lt _ _) (hx _)
  · exact byt_lt _ _
theorem spF_zero (T : ByteArray) (a : Nat) (x : Nat → Nat) (i : Nat) : spF T a x 0 i = byt T i := by
  unfold spF; rw [if_neg (by omega)]
theorem spF_succ (T : ByteArray) (a : Nat) (x : Nat → Nat) (k i : Nat) : spF T a x (k + 1) i = if i = a + k then byt T (a + k) ^^^ x k else spF T a x k i := by
  unfold spF
  by_cases h : i = a + k
  · subst h
    rw [if_pos (by omega), if_pos rfl, Nat.add_sub_cancel_left]
  · rw [if_neg h]
    by_cases h2 : a ≤ i ∧ i < a + k
    · rw [if_pos (by omega), if_pos h2]
    · rw [if_neg (by omega), if_neg h2]
def spS (T : ByteArray) (a : Nat) (x : Nat → Nat) : ByteArray := bs ((List.range 128).map (spF T a x 4))
theorem spS_size (T : ByteArray) (a : Nat) (x : Nat → Nat) : (spS T a x).size = 128 := by unfold spS; rw [bs_size]; simp
theorem spS_byt (T : ByteArray) (a : Nat) {x : Nat → Nat} (hx : ∀ j, x j < 256) {i : Nat} (h : i < 128) : byt (spS T a x) i = spF T a x 4 i := by
  unfold spS
  rw [byt_bs (fun c hc => by obtain ⟨j, _, rfl⟩ := List.mem_map.1 hc; exact spF_lt T a hx 4 j)]
  rw [List.getD_eq_getElem?_getD, List.getElem?_map, List.getElem?_range h]
  rfl
theorem xor_self_eq {a b : Nat} (h : a ^^^ b = a) : b = 0 := by
  have : a ^^^ (a ^^^ b) = a ^^^ a := by rw [h]
  rw [← Nat.xor_assoc, Nat.xor_self, Nat.zero_xor] at this
  exact this
theorem getP_spS {h : Hd} (k : okHd h = true) {a : Nat} (ha : a ≤ 36) {x : Nat → Nat} (hx : ∀ j, x j < 256) (hn : ∃ i, i < 4 ∧ x i ≠ 0) : getP (spS (headB h) a x) = none := by
  have hb : ∀ i, i < 128 → byt (spS (headB h) a x) i = spF (headB h) a x 4 i := fun i hi => spS_byt (headB h) a hx hi
  refine getP_spoilt k ha (spS_size _ _ _) (fun i hi => ?_) (fun i hi => ?_) ?_
  · rw [hb i (by omega)]
    unfold spF
    rw [if_neg (by omega)]
  · by_cases h2 : i < 128
    · rw [hb i h2]
      unfold spF
      rw [if_neg (by omega)]
    · unfold byt
      rw [dif_neg (by rw [spS_size]; omega), dif_neg (by rw [headB_size]; omega)]
  · obtain ⟨i, hi, hne⟩ := hn
    refine ⟨i, hi, ?_⟩
    rw [hb _ (by omega)]
    unfold spF
    rw [if_pos (by omega), Nat.add_sub_cancel_left]
    intro e
    exact hne (xor_self_eq e)

/-- Four bytes that were given. -/
def x4 (x0 x1 x2 x3 : Nat) (j : Nat) : Nat := match j with
  | 0 => x0
  | 1 => x1
  | 2 => x2
  | 3 => x3
  | _ => 0
theorem eq4 (x0 x1 x2 x3 : Nat) (h0 : x0 < 256) (h1 : x1 < 256) (h2 : x2 < 256) (h3 : x3 < 256) (w : World) :
    (Op.equalIn 10000 95 (.agg #[.int .u8 x0, .int .u8 x1, .int .u8 x2, .int .u8 x3]) (.agg #[.int .u8 0, .int .u8 0, .int .u8 0, .int .u8 0])).run Try.prog w = .ok (decide (x0 = 0 ∧ x1 = 0 ∧ x2 = 0 ∧ x3 = 0)) w := by
  have hc : ∀ n : Nat, n < 256 → Extern.Stop.cell (UInt8.ofNat n) = .int .u8 n := fun n hn => by
    unfold Extern.Stop.cell
    rw [UInt8.toNat_ofNat', Nat.mod_eq_of_lt hn]
    rfl
  have := run_equalIn_bytes (P := Try.prog) w 9998 95 5 4 Try.underlying95 Try.underlying5 (fun w => by go_simp) [UInt8.ofNat x0, UInt8.ofNat x1, UInt8.ofNat x2, UInt8.ofNat x3] [0, 0, 0, 0] rfl rfl
  simp only [List.map_cons, List.map_nil, hc _ h0, hc _ h1, hc _ h2, hc _ h3] at this
  have hz : Extern.Stop.cell 0 = .int .u8 0 := rfl
  rw [hz] at this
  rw [this]
  refine congrArg (fun b => Result.ok b w) ?_
  have hu : ∀ n : Nat, n < 256 → (UInt8.ofNat n == (0 : UInt8)) = decide (n = 0) := fun n hn => by
    by_cases e : n = 0
    · subst e; rfl
    · rw [decide_eq_false e]
      refine beq_eq_false_iff_ne.2 (fun h => e ?_)
      have := congrArg UInt8.toNat h
      rw [UInt8.toNat_ofNat', Nat.mod_eq_of_lt hn] at this
      exact this
  simp only [List.cons_beq_cons, hu _ h0, hu _ h1, hu _ h2, hu _ h3]
  simp

theorem xc4 {E w : World} {L : List HP} {q : Nat} {a b c d : Value} {ty : TypeId} (x : Sat E w (pt q (.cells #[a, b, c, d] ty) :: L)) : w.cell? ⟨q, 0, none⟩ = some a ∧ w.cell? ⟨q, 1, none⟩ = some b ∧ w.cell? ⟨q, 2, none⟩ = some c ∧ w.cell? ⟨q, 3, none⟩ = some d :=
  ⟨cell_blk x.at 0, cell_blk x.at 1, cell_blk x.at 2, cell_blk x.at 3⟩

set_option maxRecDepth 100000 in
set_option maxHeartbeats 1600000 in
theorem headSpoilt_ok (h : Hd) (hi : h.Int64) (at_ : Int) (x0 x1 x2 x3 : Nat) (l0 : x0 < 256) (l1 : x1 < 256) (l2 : x2 < 256) (l3 : x3 < 256) (W : World) :
    Calls Try.prog 12 #[.agg h.cells, .int .i64 at_, .agg #[.int .u8 x0, .int .u8 x1, .int .u8 x2, .int .u8 x3]] W fun e w' => e = .returned (.bool true) ∧ Below W.heap.size W w' := by
  obtain ⟨h0, h1, h2, h3, h4, h5, h6⟩ := h
  have hx0 := ((Sat.start W).alloc (.cells #[.int .i64 h0, .int .i64 h1, .int .i64 h2, .int .i64 h3, .int .i64 h4, .int .i64 h5, .int .i64 h6] 85)).alloc (.cells #[.int .u8 x0, .int .u8 x1, .int .u8 x2, .int .u8 x3] 95)
  rw [World.size_alloc] at hx0
  obtain ⟨q, hq⟩ : ∃ q, W.heap.size = q := ⟨_, rfl⟩
  rw [hq] at hx0
  obtain ⟨qx, hqx⟩ : ∃ qx, q + 1 = qx := ⟨_, rfl⟩
  rw [hqx] at hx0
  have hc : Hd.cells ⟨h0, h1, h2, h3, h4, h5, h6⟩ = #[.int .i64 h0, .int .i64 h1, .int .i64 h2, .int .i64 h3, .int .i64 h4, .int .i64 h5, .int .i64 h6] := rfl
  rw [hc]
  obtain ⟨d0, d1, d2, d3, d4, d5, d6⟩ := hd7 hx0.p1
  have hm95 : Try.prog.eqGuardType Try.prog.depth 95 = false := by kernel_rfl
  have heq := eq4 x0 x1 x2 x3 l0 l1 l2 l3
  have hck := refHdCheck_ok hx0 ⟨h0, h1, h2, h3, h4, h5, h6⟩
  rw [hc] at hck
  obtain ⟨B, hB⟩ : ∃ B, decide (x0 = 0 ∧ x1 = 0 ∧ x2 = 0 ∧ x3 = 0) = B := ⟨_, rfl⟩
  rw [hB] at heq
  have HBB := Lib.hid hB
  have HC := Lib.hid hc
  obtain ⟨ok, hok⟩ : ∃ ok, okHd ⟨h0, h1, h2, h3, h4, h5, h6⟩ = ok := ⟨_, rfl⟩
  rw [hok] at hck
  have HOK := Lib.hid hok
  have HCK := Lib.hid hck
  have HX0 := Lib.hid hx0
  have HI := Lib.hid hi
  clear hx0 hck hok hc hB hi
  cases ok with
  | false =>
    go_enter Try.func12, Try.ntmps12
    go_wp2_with (first
      | (go_at_call 49
         with_reducible refine HCK.out.mono ?_
         rintro e w2 ⟨rfl, hx2⟩
         clear d0 d1 d2 d3 d4 d5 d6
         obtain ⟨d0, d1, d2, d3, d4, d5, d6⟩ := hd7 hx2.p1
         obtain ⟨y0, y1, y2, y3⟩ := xc4 hx2
         have HX2 := Lib.hid hx2
         clear hx2 HX0 HCK)
      | (go_at_call 51; refine (headKnown_ok _).mono ?_; rintro e w8 ⟨rfl, hb8⟩; have HB8 := Lib.hid (HX2.out.ofBelow hb8); clear hb8))
    go_ret
    exact ⟨rfl, HB8.out.tail.tail.below⟩
  | true =>
    by_cases a0 : at_ < 0
    · go_enter Try.func12, Try.ntmps12
      go_wp2_with (first
      | (go_at_call 49
         with_reducible refine HCK.out.mono ?_
         rintro e w2 ⟨rfl, hx2⟩
         clear d0 d1 d2 d3 d4 d5 d6
         obtain ⟨d0, d1, d2, d3, d4, d5, d6⟩ := hd7 hx2.p1
         obtain ⟨y0, y1, y2, y3⟩ := xc4 hx2
         have HX2 := Lib.hid hx2
         clear hx2 HX0 HCK)
      | (go_at_call 51; refine (headKnown_ok _).mono ?_; rintro e w8 ⟨rfl, hb8⟩; have HB8 := Lib.hid (HX2.out.ofBelow hb8); clear hb8))
      go_ret
      exact ⟨rfl, HB8.out.tail.tail.below⟩
    · by_cases a1 : 36 < at_
      · go_enter Try.func12, Try.ntmps12
        go_wp2_with (first
      | (go_at_call 49
         with_reducible refine HCK.out.mono ?_
         rintro e w2 ⟨rfl, hx2⟩
         clear d0 d1 d2 d3 d4 d5 d6
         obtain ⟨d0, d1, d2, d3, d4, d5, d6⟩ := hd7 hx2.p1
         obtain ⟨y0, y1, y2, y3⟩ := xc4 hx2
         have HX2 := Lib.hid hx2
         clear hx2 HX0 HCK)
      | (go_at_call 51; refine (headKnown_ok _).mono ?_; rintro e w8 ⟨rfl, hb8⟩; have HB8 := Lib.hid (HX2.out.ofBelow hb8); clear hb8))
        go_ret
        exact ⟨rfl, HB8.out.tail.tail.below⟩
      · cases B with
        | true =>
          go_enter Try.func12, Try.ntmps12
          go_wp2_with (first
      | (go_at_call 49
         with_reducible refine HCK.out.mono ?_
         rintro e w2 ⟨rfl, hx2⟩
         clear d0 d1 d2 d3 d4 d5 d6
         obtain ⟨d0, d1, d2, d3, d4, d5, d6⟩ := hd7 hx2.p1
         obtain ⟨y0, y1, y2, y3⟩ := xc4 hx2
         have HX2 := Lib.hid hx2
         clear hx2 HX0 HCK)
      | (go_at_call 51; refine (headKnown_ok _).mono ?_; rintro e w8 ⟨rfl, hb8⟩; have HB8 := Lib.hid (HX2.out.ofBelow hb8); clear hb8))
          go_ret
          exact ⟨rfl, HB8.out.tail.tail.below⟩
        | false =>
          obtain ⟨a, hat⟩ : ∃ a : Nat, at_ = a := ⟨at_.toNat, by omega⟩
          have ha : a ≤ 36 := by omega
          have HAT := Lib.hid hat
          have HA := Lib.hid ha
          have hne : ∃ i, i < 4 ∧ x4 x0 x1 x2 x3 i ≠ 0 := by
            have hb := of_decide_eq_false HBB.out
            by_cases e0 : x0 = 0
            · by_cases e1 : x1 = 0
              · by_cases e2 : x2 = 0
                · exact ⟨3, by omega, fun e3 => hb ⟨e0, e1, e2, e3⟩⟩
                · exact ⟨2, by omega, e2⟩
              · exact ⟨1, by omega, e1⟩
            · exact ⟨0, by omega, e0⟩
          have hx4 : ∀ j, x4 x0 x1 x2 x3 j < 256 := fun j => by
            match j with
            | 0 => exact l0
            | 1 => exact l1
            | 2 => exact l2
            | 3 => exact l3
            | _ + 4 => exact (by decide : (0 : Nat) < 256)
          have hgn := getP_spS HOK.out ha hx4 hne
          have hby := fun {E w : World} {L : List HP} (x : Sat E w L) => refBytes_ok x ⟨h0, h1, h2, h3, h4, h5, h6⟩ (HI.out.nat HOK.out)
          have hT128 := headB_size ⟨h0, h1, h2, h3, h4, h5, h6⟩
          obtain ⟨T, hT⟩ : ∃ T, headB ⟨h0, h1, h2, h3, h4, h5, h6⟩ = T := ⟨_, rfl⟩
          rw [hT] at hgn hT128
          have HBY : Hid (∀ {E w : World} {L : List HP} (x : Sat E w L), Calls Try.prog 53 #[.agg #[.int .i64 h0, .int .i64 h1, .int .i64 h2, .int .i64 h3, .int .i64 h4, .int .i64 h5, .int .i64 h6]] w fun e w' => e = .returned (.string T) ∧ Sat E w' L) := Lib.hid (by rw [← hT, ← HC.out]; exact hby)
          have hgv : getV (spS T a (x4 x0 x1 x2 x3)) = noHd := by unfold getV; rw [hgn]
          have hge : getE (spS T a (x4 x0 x1 x2 x3)) = 14 := by unfold getE; rw [hgn]
          have hget := fun {E w : World} {L : List HP} (x : Sat E w L) => headGet_ok x (spS T a (x4 x0 x1 x2 x3)) (by rw [spS_size]; omega)
          have hconv := fun {E w : World} {L : List HP} {g cap : Nat} (x : Sat E w (bytesN g 128 (spF T a (x4 x0 x1 x2 x3) 4) :: L)) => bytesN_conv (cap := cap) x (spS_size T a (x4 x0 x1 x2 x3)) (fun i hi => (spS_byt T a hx4 hi).symm)
          obtain ⟨S, hS⟩ : ∃ S, spS T a (x4 x0 x1 x2 x3) = S := ⟨_, rfl⟩
          have HCONV : Hid (∀ {E w : World} {L : List HP} {g cap : Nat} (x : Sat E w (bytesN g 128 (spF T a (x4 x0 x1 x2 x3) 4) :: L)), (convert 96 9 (.slice (some ⟨g, 0, none⟩) 128 cap)).run Try.prog w = .ok (.string S) w) := Lib.hid (by rw [← hS]; exact hconv)
          have HGET : Hid (∀ {E w : World} {L : List HP} (x : Sat E w L), Calls Try.prog 52 #[.string S] w fun e w' => e = .returned (.tuple #[.agg noHd.cells, .int .i64 14]) ∧ Sat E w' L) := Lib.hid (by rw [← hge, ← hgv, ← hS]; exact hget)
          have HX4 := Lib.hid hx4
          have HT := Lib.hid hT128
          clear hgn hby hT hgv hge hget hconv hS hne hx4 hT128 hat ha
          go_enter Try.func12, Try.ntmps12
          go_wp2_with (first
            | (go_at_call 49
               with_reducible refine HCK.out.mono ?_
               rintro e w2 ⟨rfl, hx2⟩
               clear d0 d1 d2 d3 d4 d5 d6
               obtain ⟨d0, d1, d2, d3, d4, d5, d6⟩ := hd7 hx2.p1
               obtain ⟨y0, y1, y2, y3⟩ := xc4 hx2
               have HX2 := Lib.hid hx2
               clear hx2 HX0 HCK)
            | (go_at_call 53
               with_reducible refine (HBY.out HX2.out).mono ?_
               rintro e w3 ⟨rfl, hx3⟩
               clear d0 d1 d2 d3 d4 d5 d6 y0 y1 y2 y3
               obtain ⟨g, cap, w4, hcv, hx4⟩ := convBytes hx3 T
               rw [HT.out] at hcv
               have hx5 := bytesN_of hx4
               rw [HT.out] at hx5
               have HX5 := Lib.hid hx5
               clear hx3 hx4 hx5 HX2))
          have hat := HAT.out
          subst hat
          have ha := HA.out
          clear a0 a1
          go_loopw [8] (fun i wr => ∃ k : Nat, k ≤ 4 ∧ i = .int .i64 k ∧ Sat W wr (bytesN g 128 (spF T a (x4 x0 x1 x2 x3) k) :: pt qx (.cells #[.int .u8 x0, .int .u8 x1, .int .u8 x2, .int .u8 x3] 95) :: pt q (.cells #[.int .i64 h0, .int .i64 h1, .int .i64 h2, .int .i64 h3, .int .i64 h4, .int .i64 h5, .int .i64 h6] 85) :: heapIs W :: [])) (fun i _ => 4 - (intOf i).toNat)
          case atStart =>
            refine ⟨0, by omega, rfl, ?_⟩
            rw [show spF T a (x4 x0 x1 x2 x3) 0 = byt T from funext fun i => spF_zero T a _ i]
            exact HX5.out
          case round =>
            obtain ⟨k, hk, rfl, hx⟩ := hrel
            by_cases hk4 : k < 4
            · have hki : (k : Int) < 4 := by omega
              have hbg := bytesN_get hx (i := a + k) (by omega)
              have hbf := bytesN_free hx (i := a + k) (by omega)
              have hfk : spF T a (x4 x0 x1 x2 x3) k (a + k) = byt T (a + k) := by unfold spF; rw [if_neg (by omega)]
              rw [hfk] at hbg
              have hbl := byt_lt T (a + k)
              have hxl := HX4.out k
              have hxg : wr.cell? ⟨qx, k, none⟩ = some (.int .u8 (x4 x0 x1 x2 x3 k)) := by
                obtain ⟨z0, z1, z2, z3⟩ := xc4 hx.p1
                match k, hk4 with
                | 0, _ => exact z0
                | 1, _ => exact z1
                | 2, _ => exact z2
                | 3, _ => exact z3
              have hst := bytesN_set hx.drew (i := a + k) (by omega) (byt T (a + k) ^^^ x4 x0 x1 x2 x3 k)
              rw [show (fun j => if j = a + k then byt T (a + k) ^^^ x4 x0 x1 x2 x3 k else spF T a (x4 x0 x1 x2 x3) k j) = spF T a (x4 x0 x1 x2 x3) (k + 1) from funext fun i => (spF_succ T a _ k i).symm] at hst
              have HST := Lib.hid hst
              obtain ⟨Bt, hBt⟩ : ∃ B, byt T (a + k) = B := ⟨_, rfl⟩
              obtain ⟨Xt, hXt⟩ : ∃ X, x4 x0 x1 x2 x3 k = X := ⟨_, rfl⟩
              rw [hBt] at hbl hbg HST
              rw [hXt] at hxl hxg HST
              have hxor := u8_xor_nat Bt Xt hbl hxl
              have hsum : ((a : Int) + (k : Int)).toNat = a + k := by omega
              have hp0 : 0 ≤ (a : Int) + (k : Int) := by omega
              have hp1 : (a : Int) + (k : Int) < 128 := by omega
              have HX := Lib.hid hx
              clear hx hst hBt hXt hfk
              go_wp2
              refine wp_region_planL [(0, true), (1, true), (2, true), (3, true), (4, true), (5, true), (6, true), (7, true), (8, true), (9, true), (10, true), (11, true), (12, true), (13, true), (14, true), (15, false)]
                [(15, fun w1 => w1.cell? ⟨g, a + k, none⟩ = some (.int .u8 Bt) ∧ w1.cell? ⟨qx, k, none⟩ = some (.int .u8 Xt))] (by kernel_rfl) (by kernel_rfl) (by intro c a d v w h; cases d <;> exact h) ?_ ?_
              · exact ⟨⟨hbg, hxg⟩, trivial⟩
              simp only [planOps, List.getElem?_cons_zero, List.getElem?_cons_succ]
              iterate 15 (first | ((apply plan_pure rfl; (intro w1; go_simp; try go_bits); with_reducible rfl); try simp only [Act.put, List.setIfInBounds_toArray, List.set_cons_zero, List.set_cons_succ]) | ((refine' plan_load 0 rfl (by kernel_rfl) rfl ?_ ?_; rotate_left; (intro w1 hw1; go_simp; with_reducible rfl)); try simp only [Act.put, List.setIfInBounds_toArray, List.set_cons_zero, List.set_cons_succ]))
              have hbg2 : wr.drew.cell? ⟨g, a + k, none⟩ = some (.int .u8 Bt) := hbg
              have hbf2 : wr.drew.frozen? ⟨g, a + k, none⟩ = false := hbf
              refine plan_loud rfl (fun K hK => ?_); go_simp
              refine hK _ _ trivial ?_
              clear hK K
              try simp only [Act.put, List.setIfInBounds_toArray, List.set_cons_zero, List.set_cons_succ]
              refine plan_nil ?_
              go_wp2
              exact ⟨⟨k + 1, by omega, by go_num, HST.out⟩, by simp [intOf]; omega⟩
            · obtain rfl : k = 4 := by omega
              have hcb := HCONV.out (cap := cap) hx
              have HX := Lib.hid hx
              clear hx
              go_wp2_with (first
                | (go_at_call 52
                   with_reducible refine (HGET.out HX.out).mono ?_
                   rintro e w6 ⟨rfl, hx6⟩
                   obtain ⟨p, hp⟩ : ∃ p, w6.heap.size = p := ⟨_, rfl⟩
                   have HX6 := Lib.hid (zx hx6)
                   rw [hp] at HX6
                   clear hx6 HX)
                | (with_reducible refine wpList_store_hd (HX6.out) (noHd) ?_ ?_; exact ⟨rfl, _, _, rfl, rfl, rfl⟩
                   intro w7 hx7
                   have HX7 := Lib.hid hx7
                   clear hx7 HX6)
                | (go_at_call 51
                   refine (headKnown_ok _).mono ?_
                   rintro e w8 ⟨rfl, hb8⟩
                   have HB8 := Lib.hid (HX7.out.ofBelow hb8)
                   clear hb8))
              go_ret
              exact ⟨rfl, HB8.out.tail.tail.tail.tail.below⟩
end Go.Proofs.Ytmkpglabiikdeaa
