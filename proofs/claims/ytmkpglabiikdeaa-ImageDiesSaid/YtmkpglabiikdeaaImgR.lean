/-
  posthouse/image: Read, walked.
-/
import Derived.Test.YtmkpglabiikdeaaImgW
import Derived.Laws.StructEq
import Derived.Test.YtmkpglabiikdeaaRdAt
namespace Go.Proofs.Ytmkpglabiikdeaa
open Go.RowKit PH

theorem join_none (xs : List (List UInt8)) : Lib.join xs [] = xs.flatten := by
  cases xs with
  | nil => rfl
  | cons x r => rw [Lib.join_cons, Lib.joinTail]; simp
theorem catN_data (g : Nat → ByteArray) : ∀ n, (catN g n).data.toList = ((List.range n).map fun i => (g i).data.toList).flatten
  | 0 => rfl
  | n + 1 => by
    unfold catN
    rw [ByteArray.data_append, Array.toList_append, catN_data g n, List.range_succ, List.map_append, List.flatten_append]
    simp
theorem catN_join (g : Nat → ByteArray) (n : Nat) : (⟨(Lib.join (((List.range n).map g).map (·.data.toList)) ByteArray.empty.data.toList).toArray⟩ : ByteArray) = catN g n := by
  apply ByteArray.ext
  apply Array.ext'
  rw [catN_data]
  show (Lib.join _ []).toArray.toList = _
  rw [join_none, List.map_map]
  rfl

set_option maxRecDepth 100000 in
set_option maxHeartbeats 1600000 in
theorem imgRead_nil {W : World} (f c : Int) : Calls Try.prog 44 #[.pointer none, .int .i64 f, .int .i64 c] W fun e w' => e = .returned (.tuple #[.string ByteArray.empty, .int .i64 1]) ∧ w' = W := by
  go_enter Try.func44, Try.ntmps44
  go_wp2_with (go_at_call 81; refine (within_nil _ _ _).mono ?_; rintro e w2 ⟨rfl, rfl⟩)
  go_ret2
  exact ⟨rfl, rfl⟩

theorem rU32_at0 {E W : World} {L : List HP} {b : Nat} {S : ByteArray} (x : Sat E W (isRd b (left S 0) 0 :: L)) (h : 0 + 4 ≤ S.size) (hs : S.size ≤ 9223372036854775807) :
    Calls Try.prog 83 #[.pointer (some ⟨b, 0, none⟩)] W fun e w' => e = .returned (.int .i64 (fld S 0 4)) ∧ Sat E w' (isRd b (left S 4) 0 :: L) := rU32_at x h hs
theorem toList_neI {T s : ByteArray} (h : T ≠ s) : (T.toList == s.toList) = false := by
  rw [← beq_toListBytes]
  cases hb : T == s with
  | false => rfl
  | true =>
    have : (T.data == s.data) = true := hb
    exact absurd (ByteArray.ext (eq_of_beq this)) h
theorem textOf_none {g : Nat → ByteArray} {c : Int} (h : sectN (fld (g 0) 0 4) = 0 ∨ c < sectN (fld (g 0) 0 4)) : textOf g c = none := by unfold textOf; rw [if_pos h]
theorem textOf_go {g : Nat → ByteArray} {c : Int} {z n : Nat} (hz : fld (g 0) 0 4 = z) (hn : sectN z = n) (h : ¬ (sectN z = 0 ∨ c < sectN z)) : textOf g c = if imgB ((catN g n).extract 8 (8 + z)) = catN g n then some ((catN g n).extract 8 (8 + z)) else none := by
  unfold textOf
  rw [hz, if_neg h, hn, Int.toNat_natCast]

set_option maxRecDepth 100000 in
set_option maxHeartbeats 3200000 in
theorem imgRead_ok {E W : World} {L : List HP} {b : Nat} {D : Dk} (x : Sat E W (isDisk b D :: L)) (ok : OkD D) (al : aliveE D = 0) (f c : Int) (ha : areaE D f c = 0) (h128 : ∀ i : Nat, i < D.kept.length → (readV D i).size = 128) :
    Calls Try.prog 44 #[.pointer (some ⟨b, 0, none⟩), .int .i64 f, .int .i64 c] W fun e w' => e = .returned (.tuple #[.string (imgRd D f c).1, .int .i64 (imgRd D f c).2]) ∧ Sat E w' (isDisk b D :: L) := by
  have hkl := ok.kl
  have hab : 0 ≤ f ∧ 1 ≤ c ∧ f + c ≤ D.kept.length := by
    unfold areaE at ha
    split at ha
    · cases ha
    · split at ha
      · cases ha
      · omega
  obtain ⟨hf0, hc1, hfc⟩ := hab
  obtain ⟨a, rfl⟩ : ∃ a : Nat, f = a := ⟨f.toNat, by omega⟩
  obtain ⟨g, hg⟩ : ∃ g : Nat → ByteArray, g = fun i => readV D ((a : Int) + (i : Nat)) := ⟨_, rfl⟩
  have hread : ∀ (k : Nat), (k : Int) < c → ∀ {E' w : World} {L' : List HP}, Sat E' w (isDisk b D :: L') → Calls Try.prog 35 #[.pointer (some ⟨b, 0, none⟩), .int .i64 ((a : Int) + (k : Nat))] w fun e w' => e = .returned (.tuple #[.string (g k), .int .i64 0]) ∧ Sat E' w' (isDisk b D :: L') := fun k hk E' w L' x => by
    have ht : thereE D ((a : Int) + (k : Nat)) = 0 := by
      have := there_at al (i := a + k) (by omega)
      rw [← this]; simp
    have := read_yes x ok ((a : Int) + (k : Nat)) ht
    rw [hg]
    exact this
  have hg128 : ∀ k : Nat, (k : Int) < c → (g k).size = 128 := fun k hk => by
    rw [hg]
    have := h128 (a + k) (by omega)
    simpa using this
  have hwi := fun {E' w : World} {L' : List HP} (x : Sat E' w (isDisk b D :: L')) => within_ok x ok.kl (a : Int) c
  rw [ha] at hwi
  have hrd : imgRd D a c = match textOf g c with
      | some s => (s, 0)
      | none => (ByteArray.empty, 14) := by unfold imgRd; rw [hg]; cases textOf (fun i : Nat => readV D ((a : Int) + (i : Nat))) c <;> rfl
  rw [hrd]
  have HREAD := Lib.hid @hread
  have HWIN : Hid (∀ {E' w : World} {L' : List HP} (x : Sat E' w (isDisk b D :: L')), Calls Try.prog 81 #[.pointer (some ⟨b, 0, none⟩), .int .i64 a, .int .i64 c] w fun e w' => e = .returned (.int .i64 0) ∧ w' = w) := Lib.hid hwi
  have HX := Lib.hid x
  have h0 := HREAD.out 0 (by omega) HX.out
  rw [show (a : Int) + ((0 : Nat) : Int) = a by omega] at h0
  have HR0 := Lib.hid h0
  have hg0 := hg128 0 (by omega)
  have HG128 := Lib.hid hg128
  obtain ⟨z, hz⟩ : ∃ z, fld (g 0) 0 4 = z := ⟨_, rfl⟩
  have hzl : z < 4294967296 := hz ▸ fld_lt (g 0) 0 4
  obtain ⟨S0, hS0⟩ : ∃ S, g 0 = S := ⟨_, rfl⟩
  have hz2 : fld S0 0 4 = z := hS0 ▸ hz
  rw [hS0] at HR0 hg0
  have HZ := Lib.hid hz2
  have HG0 := Lib.hid hg0
  have hl0 := left_all S0
  clear hwi hread hg128 h0 hrd x hz2 hg0
  by_cases hA : sectN z = 0 ∨ c < sectN z
  · rw [textOf_none (by rw [hz]; exact hA)]
    dsimp only
    obtain ⟨n, hn⟩ : ∃ n, sectN z = n := ⟨_, rfl⟩
    rw [hn] at hA
    have HN := Lib.hid hn
    have HA := Lib.hid hA
    clear hn hz hS0 hg h128
    rcases hA with rfl | hA
    all_goals go_enter Try.func44, Try.ntmps44
    all_goals go_wp2_with (first
      | (go_at_call 81; with_reducible refine (HWIN.out HX.out).mono ?_; rintro e w2 ⟨rfl, rfl⟩)
      | (go_at_call 35; with_reducible refine HR0.out.mono ?_; rintro e w3 ⟨rfl, hx3⟩; have HX3 := Lib.hid hx3; clear hx3 HX)
      | (go_at_call 82; with_reducible refine (rRead_ok HX3.out S0).mono ?_; rintro e w4 ⟨r, rfl, hx4⟩; rw [← hl0] at hx4; have HX4 := Lib.hid hx4; clear hx4 HX3)
      | (go_at_call 83; with_reducible refine (rU32_at0 HX4.out (by have := HG0.out; omega) (by have := HG0.out; omega)).mono ?_; rintro e w5 ⟨rfl, hx5⟩; rw [HZ.out]; have HX5 := Lib.hid hx5.tail; clear hx5 HX4)
      | (go_at_call 45; with_reducible refine (sectors_ok z _).mono ?_; rintro e w6 ⟨rfl, rfl⟩; rw [HN.out]))
    all_goals go_ret2
    all_goals exact ⟨rfl, HX5.out⟩
  · have hz1 : z ≤ 1048576 := by
      by_cases h : z ≤ 1048576
      · exact h
      · exact absurd (.inl (sectN_no (by omega))) hA
    obtain ⟨n, hn⟩ : ∃ n, secs z = n := ⟨_, rfl⟩
    have hsn : sectN z = n := by rw [sectN_yes hz1, hn]
    have hn1 : 1 ≤ n := hn ▸ secs_pos z
    have hn9 : n ≤ 9000 := by rw [← hn]; unfold secs; omega
    have hfit : 8 + z ≤ 128 * n := by rw [← hn]; exact secs_fit z
    have hcn : ¬ c < (n : Int) := by omega
    rw [textOf_go hz hsn hA]
    have hwsz : (catN g n).size = 128 * n := catN_size n (fun i hi => HG128.out i (by omega))
    obtain ⟨Wh, hWh⟩ : ∃ w, catN g n = w := ⟨_, rfl⟩
    have hjl : ∀ xs : List ByteArray, xs = (List.range n).map g → (⟨(Lib.join (xs.map (·.data.toList)) ByteArray.empty.data.toList).toArray⟩ : ByteArray) = Wh := fun xs e => by rw [e, catN_join, hWh]
    rw [hWh] at hwsz ⊢
    obtain ⟨S, hS⟩ : ∃ S, Wh.extract 8 (8 + z) = S := ⟨_, rfl⟩
    have hSz : S.size = z := by rw [← hS, ByteArray.size_extract]; omega
    have hlaid := fun {E' w : World} {L' : List HP} (x : Sat E' w L') => imgLaid_ok x S (by omega)
    have hTs := imgB_size S
    rw [hS]
    obtain ⟨T, hT⟩ : ∃ T, imgB S = T := ⟨_, rfl⟩
    rw [hSz, hn] at hTs
    rw [hT] at hTs ⊢
    obtain ⟨RS, RE, hres, hcase⟩ : ∃ RS RE, (match (if T = Wh then some S else none : Option ByteArray) with
      | some s => ((s, 0) : ByteArray × Int)
      | none => (ByteArray.empty, 14)) = (RS, RE) ∧ ((T = Wh ∧ RS = S ∧ RE = 0) ∨ (T ≠ Wh ∧ RS = ByteArray.empty ∧ RE = 14)) := by
      by_cases he : T = Wh
      · exact ⟨S, 0, by rw [if_pos he], .inl ⟨he, rfl, rfl⟩⟩
      · exact ⟨ByteArray.empty, 14, by rw [if_neg he], .inr ⟨he, rfl, rfl⟩⟩
    rw [hres]
    dsimp only
    have HCASE := Lib.hid hcase
    clear hres hcase
    have HLAID : Hid (∀ {E' w : World} {L' : List HP} (x : Sat E' w L'), Calls Try.prog 84 #[.string S] w fun e w' => ∃ g cap, e = .returned (.slice (some ⟨g, 0, none⟩) (128 * n) cap) ∧ 128 * n ≤ cap ∧ Sat E' w' (bytesR g T :: L')) := Lib.hid (by rw [← hT, ← hn, ← hSz]; exact hlaid)
    have HTC : Hid (T.extract 0 (0 + 128 * n) = T) := Lib.hid (by rw [Nat.zero_add, ← hTs]; exact ByteArray.extract_zero_size)
    have hnb : ((n : Int) == 0) = false := beq_eq_false_iff_ne.2 (by omega)
    have HSN := Lib.hid hsn
    have HS := Lib.hid hS
    have HJL := Lib.hid hjl
    have HTS := Lib.hid hTs
    have HWSZ := Lib.hid hwsz
    have hww : (8 : Int) + (z : Int) ≤ (Wh.size : Int) := by omega
    clear hlaid hT hTs hn hsn hjl hz hS0 hg h128 hA hS hWh hwsz
    go_enter Try.func44, Try.ntmps44
    go_wp2_with (first
      | (go_at_call 81; with_reducible refine (HWIN.out HX.out).mono ?_; rintro e w2 ⟨rfl, rfl⟩)
      | (go_at_call 35; with_reducible refine HR0.out.mono ?_; rintro e w3 ⟨rfl, hx3⟩; have HX3 := Lib.hid hx3; clear hx3 HX)
      | (go_at_call 82; with_reducible refine (rRead_ok HX3.out S0).mono ?_; rintro e w4 ⟨r, rfl, hx4⟩; rw [← hl0] at hx4; have HX4 := Lib.hid hx4; clear hx4 HX3)
      | (go_at_call 83; with_reducible refine (rU32_at0 HX4.out (by have := HG0.out; omega) (by have := HG0.out; omega)).mono ?_; rintro e w5 ⟨rfl, hx5⟩; rw [HZ.out]; have HX5 := Lib.hid hx5.tail; clear hx5 HX4)
      | (go_at_call 45; with_reducible refine (sectors_ok z _).mono ?_; rintro e w6 ⟨rfl, rfl⟩; rw [HSN.out]))
    go_loopw [13, 48] (fun v i wr => ∃ k : Nat, k ≤ n ∧ i = .int .i64 k ∧ Sat E wr (row 9 1 v k ((List.range k).map fun i => .string (g i)) :: isDisk b D :: L)) (fun _ i _ => n - (intOf i).toNat)
    case atStart => exact ⟨0, by omega, rfl, HX5.out.rowNil 9 1⟩
    case round =>
      obtain ⟨k, hk, rfl, hx⟩ := hrel
      by_cases hkn : k < n
      · have hki : (k : Int) < n := by omega
        have hrk := HREAD.out k (by omega) hx.p1
        have HRK := Lib.hid hrk
        obtain ⟨G, hG⟩ : ∃ G, g k = G := ⟨_, rfl⟩
        rw [hG] at HRK
        have HGK := Lib.hid hG
        clear hx hrk hG
        go_wp2_with (first
          | (go_at_call 35; with_reducible refine HRK.out.mono ?_; rintro e w7 ⟨rfl, hx7⟩; have HX7 := Lib.hid hx7.p1; clear hx7)
          | (at_builtin; refine wpList_app1 rfl _ _ 51 rfl HX7.out 16 (.string ByteArray.empty) (by kernel_rfl) Try.underlying51 rfl rfl [.string G] rfl rfl (by simp [Value.oneCell']) (by omega) (by omega) ?_; intro v' w8 hx8; have HX8 := Lib.hid hx8; clear hx8))
        refine ⟨⟨k + 1, by omega, by go_num, ?_⟩, by simp [intOf]; omega⟩
        rw [List.range_succ, List.map_append, List.map_cons, List.map_nil, HGK.out]
        exact HX8.out
      · obtain rfl : k = n := by omega
        obtain ⟨gr, cap, rfl, hcap, _, hgb, hcs⟩ := hx.rowSees (by omega)
        have hcs' : ∀ (j : Nat) (x : ByteArray), ((List.range k).map g)[j]? = some x → wr.cell? ⟨gr, 0 + j, none⟩ = some (.string x) := fun j x hj => hcs j _ (by
          rw [List.getElem?_map] at hj ⊢; cases hlj : (List.range k)[j]? with | none => rw [hlj] at hj; cases hj | some p => rw [hlj] at hj; cases hj; rfl)
        have hj := Try.strings_Join gr 0 cap ((List.range k).map g) ByteArray.empty wr hcs' hgb (by simp; omega) (by simpa using hcap) (by
          have := congrArg ByteArray.size (HJL.out _ rfl)
          have h2 : (⟨(Lib.join (((List.range k).map g).map (·.data.toList)) ByteArray.empty.data.toList).toArray⟩ : ByteArray).size = (Lib.join (((List.range k).map g).map (·.data.toList)) ByteArray.empty.data.toList).length := by simp [ByteArray.size]
          rw [h2, HWSZ.out] at this
          omega)
        rw [List.length_map, List.length_range, HJL.out _ rfl] at hj
        have HJ := Lib.hid hj
        have HX9 := Lib.hid hx
        have hki : ¬ (k : Int) < k := by omega
        clear hj hcs hcs' hx
        have ARMS := trivial
        rcases HCASE.out with ⟨rfl, rfl, rfl⟩ | ⟨he, rfl, rfl⟩
        · go_wp2_with (first
            | (go_at_call 61; refine HJ.out.mono ?_; rintro e w9 ⟨rfl, hb⟩; have HX10 := Lib.hid (HX9.out.ofBelow hb); clear hb)
            | (go_at_call 84; have hl := HLAID.out HX10.out; rw [← HS.out] at hl; with_reducible refine hl.mono ?_; clear hl; rintro e w11 ⟨g', cap', rfl, hcp, hx11⟩; have hcv := bytesR_conv (o := 0) (n := 128 * k) (cap := cap') hx11 (by have := HTS.out; omega); rw [HTC.out] at hcv; have HX11 := Lib.hid hx11; clear hx11))
          go_ret2
          exact ⟨retS2 HS.out rfl, HX11.out.tail.tail⟩
        · have hbe := toList_neI he
          go_wp2_with (first
            | (go_at_call 61; refine HJ.out.mono ?_; rintro e w9 ⟨rfl, hb⟩; have HX10 := Lib.hid (HX9.out.ofBelow hb); clear hb)
            | (go_at_call 84; have hl := HLAID.out HX10.out; rw [← HS.out] at hl; with_reducible refine hl.mono ?_; clear hl; rintro e w11 ⟨g', cap', rfl, hcp, hx11⟩; have hcv := bytesR_conv (o := 0) (n := 128 * k) (cap := cap') hx11 (by have := HTS.out; omega); rw [HTC.out] at hcv; have HX11 := Lib.hid hx11; clear hx11))
          go_ret2
          exact ⟨rfl, HX11.out.tail.tail⟩
end Go.Proofs.Ytmkpglabiikdeaa
