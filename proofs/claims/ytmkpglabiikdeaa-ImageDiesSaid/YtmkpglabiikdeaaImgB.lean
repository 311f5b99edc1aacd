/-
  posthouse/image: how many sectors; areas; a text's bytes, walked.
-/
import Derived.Test.YtmkpglabiikdeaaImgA
namespace Go.Proofs.Ytmkpglabiikdeaa
open Go.RowKit PH

theorem sectN_go (n : Int) (h : 0 ≤ n) (h2 : n ≤ 1048576) : sectN n = (n + 135) / 128 := by unfold sectN; rw [if_neg (by omega)]
theorem sectN_out (n : Int) (h : n < 0 ∨ 1048576 < n) : sectN n = 0 := by unfold sectN; rw [if_pos h]

set_option maxRecDepth 100000 in
theorem sectors_ok (n : Int) (W : World) : Calls Try.prog 45 #[.int .i64 n] W fun e w' => e = .returned (.int .i64 (sectN n)) ∧ w' = W := by
  by_cases h0 : n < 0
  · rw [sectN_out n (.inl h0)]
    go_enter Try.func45, Try.ntmps45
    go_wp2
    go_ret
    exact ⟨rfl, rfl⟩
  · by_cases h1 : 1048576 < n
    · rw [sectN_out n (.inr h1)]
      go_enter Try.func45, Try.ntmps45
      go_wp2
      go_ret
      exact ⟨rfl, rfl⟩
    · rw [sectN_go n (by omega) (by omega)]
      go_enter Try.func45, Try.ntmps45
      go_wp2
      go_ret
      exact ⟨retI (by omega), rfl⟩
set_option maxRecDepth 100000 in
theorem refSectors_ok (n : Int) (W : World) : Calls Try.prog 46 #[.int .i64 n] W fun e w' => e = .returned (.int .i64 (sectN n)) ∧ w' = W := by
  by_cases h0 : n < 0
  · rw [sectN_out n (.inl h0)]
    go_enter Try.func46, Try.ntmps46
    go_wp2
    go_ret
    exact ⟨rfl, rfl⟩
  · by_cases h1 : 1048576 < n
    · rw [sectN_out n (.inr h1)]
      go_enter Try.func46, Try.ntmps46
      go_wp2
      go_ret
      exact ⟨rfl, rfl⟩
    · rw [sectN_go n (by omega) (by omega)]
      go_enter Try.func46, Try.ntmps46
      go_wp2
      go_ret
      exact ⟨retI (by omega), rfl⟩
set_option maxRecDepth 100000 in
theorem within_nil (a b : Int) (W : World) : Calls Try.prog 81 #[.pointer none, .int .i64 a, .int .i64 b] W fun e w' => e = .returned (.int .i64 1) ∧ w' = W := by
  go_enter Try.func81, Try.ntmps81
  go_wp2_with (go_at_call 36; refine size_nil.mono ?_; rintro e w2 ⟨rfl, rfl⟩)
  go_ret
  exact ⟨rfl, rfl⟩
set_option maxRecDepth 100000 in
theorem within_ok {E W : World} {L : List HP} {b : Nat} {D : Dk} (x : Sat E W (isDisk b D :: L)) (hk : D.kept.length ≤ 1000000) (f c : Int) :
    Calls Try.prog 81 #[.pointer (some ⟨b, 0, none⟩), .int .i64 f, .int .i64 c] W fun e w' => e = .returned (.int .i64 (areaE D f c)) ∧ w' = W := by
  have HZ := Lib.hid (size_ok x)
  clear x
  unfold areaE
  obtain ⟨n, hn⟩ : ∃ n, D.kept.length = n := ⟨_, rfl⟩
  rw [hn] at HZ hk ⊢
  clear hn
  by_cases h0 : n = 0
  · subst h0
    rw [if_pos rfl]
    go_enter Try.func81, Try.ntmps81
    go_wp2_with (go_at_call 36; refine HZ.out.mono ?_; rintro e w2 ⟨rfl, rfl⟩)
    go_ret
    exact ⟨rfl, rfl⟩
  · rw [if_neg h0]
    by_cases h1 : f < 0
    · rw [if_pos (.inl h1)]
      go_enter Try.func81, Try.ntmps81
      go_wp2_with (go_at_call 36; refine HZ.out.mono ?_; rintro e w2 ⟨rfl, rfl⟩)
      go_ret
      exact ⟨rfl, rfl⟩
    · by_cases h2 : c < 1
      · rw [if_pos (.inr (.inl h2))]
        go_enter Try.func81, Try.ntmps81
        go_wp2_with (go_at_call 36; refine HZ.out.mono ?_; rintro e w2 ⟨rfl, rfl⟩)
        go_ret
        exact ⟨rfl, rfl⟩
      · by_cases h3 : (n : Int) < c
        · rw [if_pos (.inr (.inr (.inl h3)))]
          go_enter Try.func81, Try.ntmps81
          go_wp2_with (go_at_call 36; refine HZ.out.mono ?_; rintro e w2 ⟨rfl, rfl⟩)
          go_ret
          exact ⟨rfl, rfl⟩
        · by_cases h4 : (n : Int) - c < f
          · rw [if_pos (.inr (.inr (.inr h4)))]
            go_enter Try.func81, Try.ntmps81
            go_wp2_with (go_at_call 36; refine HZ.out.mono ?_; rintro e w2 ⟨rfl, rfl⟩)
            go_ret
            exact ⟨rfl, rfl⟩
          · rw [if_neg (by omega)]
            go_enter Try.func81, Try.ntmps81
            go_wp2_with (go_at_call 36; refine HZ.out.mono ?_; rintro e w2 ⟨rfl, rfl⟩)
            go_ret
            exact ⟨rfl, rfl⟩

/-- What Fixed leaves, in the words of 'imgB'. -/
theorem img_parts (s : ByteArray) : ∃ p : Nat, p ≤ 3 ∧ padN s.size = p ∧ 8 + s.size + p ≤ 128 * secs s.size ∧ imgB s = bs (imgL s ++ List.replicate p 0) ++ zeros (128 * secs s.size - (8 + s.size + p)) := by
  have hp : padN s.size ≤ 3 := by unfold padN; omega
  have hfit : 8 + s.size + padN s.size ≤ 128 * secs s.size := by unfold padN secs; omega
  refine ⟨padN s.size, hp, rfl, hfit, ?_⟩
  apply lst_inj
  have hz : ∀ n, lst (zeros n) = List.replicate n 0 := fun n => by simp [lst, zeros]
  have hok : okBytes (imgL s ++ List.replicate (padN s.size) 0) := (imgL_ok s).append (fun c hc => by rw [List.eq_of_mem_replicate hc]; omega)
  rw [lst_append, lst_bs hok, hz]
  unfold imgB
  rw [lst_append, lst_bs (imgL_ok s), hz, List.append_assoc, List.replicate_append_replicate]
  congr 2
  omega

theorem wpList_appZb {E w : World} {L : List HP} {g : Nat} {s : ByteArray} {cap k : Nat} {ops : Array Oper} {rest : List Oper} {o : Oper} {ac : Act} {Q : Exit → Act → World → Prop} (hc : s.size ≤ cap) (hcm : cap ≤ maxLen) (x : Sat E w (pt g (.cells (bytesRow s cap) 5 ((bytesRow s cap).size, (bytesRow s cap).size + 1)) :: L)) (m : Nat) (hm : m ≤ 1000000) (hn : s.size ≤ 100000000) (hk : s.size = k)
    (hop : o.guard = none ∧ ∃ a p : Operand, o.op = .call { callee := .builtin .append, args := #[a, p], argTypes := #[96, 3] } ∧ ac.eval a = .slice (some ⟨g, 0, none⟩) k cap ∧ ∃ z : Int, ac.eval p = .int .i64 z ∧ z = m)
    (hK : ∀ g' cap' w', k + m ≤ cap' → Sat E w' (bytesR g' (s ++ zeros m) :: L) → wpList Try.prog ops Q rest (ac.put o.dst (.slice (some ⟨g', 0, none⟩) (k + m : Nat) cap')) w') : wpList Try.prog ops Q (o :: rest) ac w := by
  subst hk
  obtain ⟨hgd, a, p, ho, ha, z, hp, rfl⟩ := hop
  obtain ⟨g', cap', w', hr, hcp, hx⟩ := appendZb hc hcm x o.type m hm hn
  refine wpList_run hgd ?_ (hK g' cap' w' hcp hx)
  simp only [execOp, ho, resolve, invoke, builtin, Sem.run_bind, Sem.run_pure, Result.andThen_ok, List.map_toArray, List.map_cons, List.map_nil, ha, hp, hr]

set_option maxRecDepth 100000 in
set_option maxHeartbeats 1600000 in
theorem imgLaid_ok {E W : World} {L : List HP} (x : Sat E W L) (s : ByteArray) (hs : s.size ≤ 1048576) : Calls Try.prog 84 #[.string s] W fun e w' => ∃ g cap, e = .returned (.slice (some ⟨g, 0, none⟩) (128 * secs s.size) cap) ∧ 128 * secs s.size ≤ cap ∧ Sat E w' (bytesR g (imgB s) :: L) := by
  obtain ⟨p, hp3, hpd, hfit, himg⟩ := img_parts s
  have hx0 := wr_new x
  obtain ⟨q, hq⟩ : ∃ q, W.heap.size = q := ⟨_, rfl⟩
  rw [hq] at hx0
  obtain ⟨U, hU⟩ : ∃ U, bs (imgL s ++ List.replicate p 0) = U := ⟨_, rfl⟩
  rw [hU] at himg
  have hUs : U.size = 8 + s.size + p := by rw [← hU, bs_size, List.length_append, imgL_len, List.length_replicate]
  have hL : numL s.size 4 ++ numL (sumOf s) 4 ++ lst s ++ List.replicate (padN s.size) 0 = imgL s ++ List.replicate p 0 := by rw [hpd]; rfl
  obtain ⟨K, hK⟩ : ∃ K, 128 * secs s.size = K := ⟨_, rfl⟩
  have hsec : sectN s.size = secs s.size := sectN_yes hs
  have hKs : K ≤ 2000000 := by rw [← hK]; unfold secs; omega
  have hm200 : K - (8 + s.size + p) ≤ 200 := by rw [← hK]; unfold secs; omega
  rw [hK] at hfit himg ⊢
  obtain ⟨m, hm⟩ : ∃ m, K - (8 + s.size + p) = m := ⟨_, rfl⟩
  rw [hm] at himg hm200
  obtain ⟨T, hT⟩ : ∃ T, imgB s = T := ⟨_, rfl⟩
  rw [hT] at himg ⊢
  obtain ⟨S, hS⟩ : ∃ S, sumOf s = S := ⟨_, rfl⟩
  have hSl : S < 4294967296 := hS ▸ sumOf_lt s
  rw [hS] at hL
  obtain ⟨n, hn⟩ : ∃ n, s.size = n := ⟨_, rfl⟩
  rw [hn] at hs hUs hL hsec hfit hm hK
  have HN := Lib.hid hn
  have HSS := Lib.hid hS
  have HL := Lib.hid hL
  have HU := Lib.hid hU
  have HUS := Lib.hid hUs
  have HIMG := Lib.hid himg
  have HX0 := Lib.hid hx0
  have HSEC := Lib.hid hsec
  have hKi : (128 : Int) * (secs n : Int) = (K : Int) := by omega
  obtain ⟨sc, hsc⟩ : ∃ sc : Int, (secs n : Int) = sc := ⟨_, rfl⟩
  rw [hsc] at hKi HSEC
  have hKi2 : sc * 128 = K := by omega
  obtain ⟨u, hu⟩ : ∃ u, 8 + n + p = u := ⟨_, rfl⟩
  rw [hu] at hm hfit hUs
  have HUU := Lib.hid hUs
  have HSL := Lib.hid hSl
  have HNS := Lib.hid hs
  clear x hx0 hS hL hU hUs himg hsec hT hKi hsc hpd hK
  go_enter Try.func84, Try.ntmps84
  go_wp2_with (first
    | (go_at_call 107
       with_reducible refine (wU32_ok HX0.out (by simp) n (by have := HNS.out; omega)).mono ?_
       rintro e1 w1 ⟨rfl, hx1⟩
       rw [List.nil_append] at hx1
       have HX1 := Lib.hid hx1
       clear hx1 HX0)
    | (go_at_call 108
       with_reducible refine (sumOf_ok HX1.out s (by have := HNS.out; have := HN.out; omega)).mono ?_
       rintro e2 w2 ⟨rfl, hx2⟩
       rw [HSS.out]
       have HX2 := Lib.hid hx2
       clear hx2 HX1)
    | (go_at_call 107
       with_reducible refine (wU32_ok HX2.out (by simp [numL_len]) S HSL.out).mono ?_
       rintro e3 w3 ⟨rfl, hx3⟩
       have HX3 := Lib.hid hx3
       clear hx3 HX2)
    | (go_at_call 109
       with_reducible refine (wFixed_ok HX3.out (by simp [numL_len]) s (by have := HNS.out; have := HN.out; omega)).mono ?_
       rintro e4 w4 ⟨rfl, hx4⟩
       rw [HN.out, HL.out] at hx4
       have HX4 := Lib.hid hx4
       clear hx4 HX3)
    | (go_at_call 110
       with_reducible refine (wText_ok HX4.out).mono ?_
       rintro e5 w5 ⟨rfl, rfl⟩
       rw [HU.out]
       obtain ⟨g, cap, w6, hcv, hc1, hc2, hx6⟩ := convBytes2 HX4.out U (by have := HUS.out; have := HNS.out; omega)
       have HX6 := Lib.hid hx6
       have HC1 := Lib.hid hc1
       have HC2 := Lib.hid hc2
       rw [HUU.out] at hcv
       clear hx6 hc1 hc2 HX4)
    | (go_at_call 45
       with_reducible refine (sectors_ok n _).mono ?_
       rintro e7 w7 ⟨rfl, rfl⟩
       rw [HSEC.out])
    | (with_reducible refine wpList_appZb HC1.out HC2.out HX6.out m (by omega) (by have := HUS.out; have := HNS.out; omega) HUU.out ?_ ?_
       exact ⟨rfl, _, _, rfl, rfl, _, rfl, by omega⟩
       intro g' cap' w8 hcp hx8
       have HCP := Lib.hid hcp
       have HX8 := Lib.hid hx8
       clear hx8 HX6 hcp))
  go_ret
  refine ⟨g', cap', ?_, by have := HCP.out; omega, ?_⟩
  · rw [show u + m = K by omega]
    rfl
  · rw [HIMG.out]
    exact HX8.out.p1.tail
end Go.Proofs.Ytmkpglabiikdeaa
