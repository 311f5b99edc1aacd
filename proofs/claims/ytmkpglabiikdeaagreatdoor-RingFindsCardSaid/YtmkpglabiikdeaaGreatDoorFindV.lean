/-
  Layer 12: the law RingFinds, walked through.
-/
import Derived.Test.YtmkpglabiikdeaaGreatDoorFindW
namespace Go.Proofs.YtmkpglabiikdeaaGreatDoor
open Go.RowKit PH
attribute [local irreducible] fld pcB pcOfB left getPc

set_option maxRecDepth 100000 in
set_option maxHeartbeats 6400000 in
theorem ringFinds_ok {W : World} {cn po : Int} {l : List Pq} {a : Option Addr} {c : Nat} (hsee : Sees W a (pqs l)) (hall : ∀ x ∈ l, x.ok W) (hl : l.length ≤ 9223372036854775807) :
    Calls Tryz.prog 7 #[.int .i64 cn, .int .i64 po, .slice a l.length c] W (TrueBelow12 W) := by
  have hlr := large12_ok (c := c) hsee hl (fun x hx => by obtain ⟨-, k2, k3⟩ := hall x hx; unfold maxLen at k2 k3; exact ⟨by omega, by omega⟩)
  obtain ⟨r, hr⟩ : ∃ r, bigP l = r := ⟨_, rfl⟩
  obtain ⟨len, hlen⟩ : ∃ n, l.length = n := ⟨_, rfl⟩
  rw [hr, hlen] at hlr
  rw [hlen] at hl ⊢
  have HL := Lib.hid hlr
  have HR := Lib.hid hr
  have HLEN := Lib.hid hlen
  have HSEE := Lib.hid hsee
  have HALL := Lib.hid hall
  clear hlr hr hlen hsee hall
  by_cases k1 : cn < 1
  · go_enter Tryz.func7, Tryz.ntmps7
    go_wp2_with (first | (go_at_call 28; refine HL.out.mono ?_; rintro e w2 ⟨rfl, rfl⟩) | (go_at_call 19; refine (known12_ok _).mono ?_; rintro e w2 ⟨rfl, hb⟩))
    go_ret
    exact ⟨rfl, hb⟩
  by_cases k2 : 20 < cn
  · go_enter Tryz.func7, Tryz.ntmps7
    go_wp2_with (first | (go_at_call 28; refine HL.out.mono ?_; rintro e w2 ⟨rfl, rfl⟩) | (go_at_call 19; refine (known12_ok _).mono ?_; rintro e w2 ⟨rfl, hb⟩))
    go_ret
    exact ⟨rfl, hb⟩
  by_cases k3 : po < 0
  · go_enter Tryz.func7, Tryz.ntmps7
    go_wp2_with (first | (go_at_call 28; refine HL.out.mono ?_; rintro e w2 ⟨rfl, rfl⟩) | (go_at_call 19; refine (known12_ok _).mono ?_; rintro e w2 ⟨rfl, hb⟩))
    go_ret
    exact ⟨rfl, hb⟩
  by_cases k4 : cn ≤ po
  · go_enter Tryz.func7, Tryz.ntmps7
    go_wp2_with (first | (go_at_call 28; refine HL.out.mono ?_; rintro e w2 ⟨rfl, rfl⟩) | (go_at_call 19; refine (known12_ok _).mono ?_; rintro e w2 ⟨rfl, hb⟩))
    go_ret
    exact ⟨rfl, hb⟩
  obtain ⟨C, rfl⟩ : ∃ C : Nat, cn = C := ⟨cn.toNat, by omega⟩
  obtain ⟨P, rfl⟩ : ∃ P : Nat, po = P := ⟨po.toNat, by omega⟩
  cases r
  · have hl40 : len ≤ 40 := by rw [← HLEN.out]; exact (bigP_no HR.out).1
    have I0 : FindI C 0 (newD 20) P 1 1 2 [] 0 := FindI.new (by omega) (by omega) (by omega)
    have hop := fun (b : Nat) (w : World) (y : Sat W w (isDisk b (newD 20) :: [heapIs W])) => I0.open (by omega) (by omega) (openT_new ⟨by omega, by rw [newD_len]; omega, by rw [newD_len]; omega, by omega, by omega, by omega, by omega, by omega, by omega, by omega⟩) y
    have HI0 := Lib.hid I0
    have HOP := Lib.hid hop
    clear I0 hop
    go_enter Tryz.func7, Tryz.ntmps7
    go_wp2_with (first
      | (go_at_call 28; refine HL.out.mono ?_; rintro e w2 ⟨rfl, hw⟩; subst w2)
      | (go_at_call 17; refine (new_ok (n := 20) (Sat.start _) (by omega) (by omega)).mono ?_; rintro e w2 ⟨b, rfl, hx2⟩; have HX2 := Lib.hid hx2; clear hx2)
      | (go_at_call 18; refine (HOP.out _ _ HX2.out).mono ?_; rintro e w4 ⟨q, v0, rfl, hx4⟩; have HX4 := Lib.hid hx4; clear hx4))
    go_loopw [9, 10, 13, 14, 15, 16, 17, 18] (fun e9 r10 s13 q14 n15 al su i wr => ∃ (k st : Nat) (sq si E : Int) (R : List (List Pc)) (sure : Nat) (q : Nat) (v : Value) (D : Dk), k ≤ len ∧ FindI C k D st sq si E R sure ∧
      e9 = .int .i64 E ∧ r10 = .pointer (some ⟨q, 0, none⟩) ∧ s13 = .int .i64 st ∧ q14 = .int .i64 sq ∧ n15 = .int .i64 si ∧ al = v ∧ su = .int .i64 sure ∧ i = .int .i64 k ∧
      Sat W wr (isRing q b (rgOf C st sq E R) :: isDisk b D :: row 9 1 v R.length (sects (R.map joined)) :: [heapIs W])) (fun _ _ _ _ _ _ _ i _ => len - (intOf i).toNat)
    case atStart =>
      exact ⟨0, P, 1, 1, 2, [], 0, q, _, newD 20, by omega, HI0.out, rfl, rfl, rfl, rfl, rfl, rfl, rfl, rfl, (HX4.out.p2.tail.rowNil 9 1).p2.p2⟩
    case round =>
      clear HX4 HX2 HOP HI0
      obtain ⟨k, st, sq, si, E, R, sure, q, v, D, hk, I, rfl, rfl, rfl, rfl, rfl, rfl, rfl, rfl, hx⟩ := hrel
      have hi40 : k ≤ 40 := by omega
      have HI := Lib.hid I
      have HX := Lib.hid hx
      clear hx
      have hsm := I.sm
      have HRL := Lib.hid (show R.length ≤ 50 from by have := I.s1; have := I.s0; omega)
      clear I
      by_cases hlt : k < len
      · obtain ⟨sp, hsp⟩ : ∃ x, l[k]? = some x := ⟨_, List.getElem?_eq_getElem (by rw [HLEN.out]; exact hlt)⟩
        have hsz := (bigP_no HR.out).2 sp (List.mem_of_getElem? hsp)
        have hsa := HALL.out sp (List.mem_of_getElem? hsp)
        obtain ⟨kd, s, zs, ax, cx⟩ := sp
        obtain ⟨g, go, rfl, hc⟩ := (HSEE.out.kept HX.out.p3.below).play hsp
        have c0 := hc 0 (.int .i64 kd) rfl
        have c1 := hc 1 (.string s) rfl
        have c2 := hc 2 (.slice ax zs.length cx) rfl
        unfold Pq.ok at hsa
        dsimp only at hsz hsa
        rw [Nat.add_zero] at c0
        have HSA := Lib.hid hsa
        have HSZ := Lib.hid hsz
        clear hsp hsa hsz hc
        have hxa := zpq2 HX.out
        obtain ⟨p, hp⟩ : ∃ p, wr.heap.size = p := ⟨_, rfl⟩
        rw [hp] at hxa
        have HXA := Lib.hid hxa
        clear hxa
        by_cases k1 : kd = 1
        · subst kd
          by_cases hf : npc s.size ≤ C - off R R.length
          · obtain ⟨l2, D2, hjs, I2, hap⟩ := HI.out.appYes (E0 := W) (q := q) (b := b) hi40 HSZ.out.1 hf
            have HI2 := Lib.hid I2
            have HAP := Lib.hid hap
            have HJS := Lib.hid hjs
            clear I2 hap hjs
            go_wp2_with (first
            | (with_reducible refine wpList_store_pq HXA.out (⟨1, s, zs, ax, cx⟩ : Pq) ?_ ?_
               exact ⟨rfl, _, _, rfl, rfl, rfl⟩
               intro w2 hx2
               clear c0 c1 c2
               obtain ⟨t0, t1, t2⟩ := pq3 hx2
               have HX2 := Lib.hid hx2
               clear hx2 HXA)
            | (go_at_call 26; refine (HAP.out _ _ HX2.out.p2.p2).mono ?_; rintro e w3 ⟨rfl, hx3⟩; clear t0 t1 t2; obtain ⟨t0, t1, t2⟩ := pq3 hx3.p2; have HX3 := Lib.hid hx3; clear hx3 HX2)
            | (at_builtin; go_loud (refine wpList_appT rfl _ _ rfl HX3.out.p3 s rfl rfl (by have := HRL.out; omega) ?_; intro v4 w4 hx4; have HX4 := Lib.hid hx4; clear hx4)))
            refine ⟨⟨k + 1, st, sq, si, E, R ++ [l2], sure, q, v4, D2, by omega, HI2.out, rfl, rfl, rfl, rfl, rfl, rfl, rfl, by go_num, ?_⟩, by simp [intOf]; omega⟩
            have e1 : sects (R.map joined) ++ [Value.string s] = sects ((R ++ [l2]).map joined) := by rw [← HJS.out]; simp [sects]
            have e2 : (R ++ [l2]).length = R.length + 1 := by simp
            rw [← e1, e2]
            exact HX4.out.p3.tail.p2.p2
          · have hap := fun (W' : World) (L : List HP) (y : Sat W W' (isRing q b (rgOf C st sq E R) :: isDisk b D :: L)) => HI.out.appNo hi40 HSZ.out.1 hf y
            have HAP := Lib.hid hap
            clear hap
            go_wp2_with (first
            | (with_reducible refine wpList_store_pq HXA.out (⟨1, s, zs, ax, cx⟩ : Pq) ?_ ?_
               exact ⟨rfl, _, _, rfl, rfl, rfl⟩
               intro w2 hx2
               clear c0 c1 c2
               obtain ⟨t0, t1, t2⟩ := pq3 hx2
               have HX2 := Lib.hid hx2
               clear hx2 HXA)
            | (go_at_call 26; refine (HAP.out _ _ HX2.out.p2.p2).mono ?_; rintro e w3 ⟨rfl, hx3⟩; clear t0 t1 t2; obtain ⟨t0, t1, t2⟩ := pq3 hx3.p2; have HX3 := Lib.hid hx3; clear hx3 HX2))
            refine ⟨⟨k + 1, st, sq, si, E, R, sure, q, _, D, by omega, HI.out.wait, rfl, rfl, rfl, rfl, rfl, rfl, rfl, by go_num, ?_⟩, by simp [intOf]; omega⟩
            exact HX3.out.p2.tail
        by_cases k2 : kd = 2
        · subst kd
          obtain ⟨av, cv, rfl, -⟩ := rowSlice HX.out.p2
          have hbr := fun (W' : World) (L : List HP) (y : Sat W W' (isDisk b D :: L)) => barrier_ok y HI.out.fine.run.ok (by have := HI.out.fine.run.b; omega)
          have HBR := Lib.hid hbr
          clear hbr
          go_wp2_with (first
            | (with_reducible refine wpList_store_pq HXA.out (⟨2, s, zs, ax, cx⟩ : Pq) ?_ ?_
               exact ⟨rfl, _, _, rfl, rfl, rfl⟩
               intro w2 hx2
               clear c0 c1 c2
               obtain ⟨t0, t1, t2⟩ := pq3 hx2
               have HX2 := Lib.hid hx2
               clear hx2 HXA)
            | (go_at_call 25; refine (HBR.out _ _ HX2.out.p2).mono ?_; rintro e w3 ⟨rfl, hx3⟩; clear t0 t1 t2; have HX3 := Lib.hid hx3; clear hx3 HX2))
          refine ⟨⟨k + 1, st, sq, si, E, R, R.length, q, _, barrierD D, by omega, HI.out.barrier hi40, rfl, rfl, rfl, rfl, rfl, rfl, rfl, by go_num, ?_⟩, by simp [intOf]; omega⟩
          exact HX3.out.p1.tail.p1
        by_cases k3 : kd = 3
        · subst kd
          have hbr := fun (W' : World) (L : List HP) (y : Sat W W' (isDisk b D :: L)) => barrier_ok y HI.out.fine.run.ok (by have := HI.out.fine.run.b; omega)
          have HBR := Lib.hid hbr
          clear hbr
          have hcl := fun (W' : World) (L : List HP) (y : Sat W W' (isRing q b (rgOf C st sq E R) :: L)) => clear_ok y
          have HCL := Lib.hid hcl
          clear hcl
          have hrc := rgClear C st sq E R
          obtain ⟨st2, hst2⟩ : ∃ s2, (st + off R R.length) % C = s2 := ⟨_, rfl⟩
          obtain ⟨sq2, hsq2⟩ : ∃ s2, sq + (R.length : Int) = s2 := ⟨_, rfl⟩
          rw [hst2, hsq2] at hrc
          have I2 := HI.out.clear hi40
          rw [hst2, hsq2] at I2
          have hpos := fun (W' : World) (L : List HP) (y : Sat W W' (isRing q b (rgOf C st2 sq2 E []) :: L)) => pos_ok y
          have hp2 : (rgOf C st2 sq2 E []).pos = st2 := by
            show (st2 + 0) % C = st2
            exact Nat.mod_eq_of_lt I2.hst
          rw [hp2] at hpos
          have hnx := fun (W' : World) (L : List HP) (y : Sat W W' (isRing q b (rgOf C st2 sq2 E []) :: L)) => next_ok y
          have hn2 : (rgOf C st2 sq2 E []).seq = sq2 := by
            show sq2 + ((0 : Nat) : Int) = sq2
            omega
          rw [hn2] at hnx
          have HPOS := Lib.hid hpos
          have HNX := Lib.hid hnx
          have HRC := Lib.hid hrc
          have HI2 := Lib.hid I2
          clear hpos hnx hrc I2 hp2 hn2 hst2 hsq2
          go_wp2_with (first
            | (with_reducible refine wpList_store_pq HXA.out (⟨3, s, zs, ax, cx⟩ : Pq) ?_ ?_
               exact ⟨rfl, _, _, rfl, rfl, rfl⟩
               intro w2 hx2
               clear c0 c1 c2
               obtain ⟨t0, t1, t2⟩ := pq3 hx2
               have HX2 := Lib.hid hx2
               clear hx2 HXA)
            | (go_at_call 25; refine (HBR.out _ _ HX2.out.p2).mono ?_; rintro e w3 ⟨rfl, hx3⟩; clear t0 t1 t2; have HX3 := Lib.hid hx3; clear hx3 HX2)
            | (go_at_call 23; refine (HCL.out _ _ HX3.out.p2).mono ?_; rintro e w4 ⟨rfl, hx4⟩; rw [HRC.out] at hx4; have HX4 := Lib.hid hx4; clear hx4 HX3)
            | (go_at_call 21; refine (HPOS.out _ _ HX4.out).mono ?_; rintro e w5 ⟨rfl, hw⟩; subst w5)
            | (go_at_call 22; refine (HNX.out _ _ HX4.out).mono ?_; rintro e w5 ⟨rfl, hw⟩; subst w5))
          refine ⟨⟨k + 1, st2, sq2, E, E, [], 0, q, _, barrierD D, by omega, HI2.out, rfl, rfl, rfl, rfl, rfl, rfl, rfl, by go_num, ?_⟩, by simp [intOf]; omega⟩
          exact (HX4.out.p2.tail.p2.tail.rowNil 9 1).p2.p2
        obtain ⟨av, cv, rfl, hcv⟩ := rowSlice HX.out.p2
        by_cases k4 : kd = 4
        · subst kd
          have hcr := fun (W' : World) (L : List HP) (y : Sat W W' (isDisk b D :: L)) (h : ∀ W', Sat W W' L → SeesI W' ax zs) => crash_ok (c := cx) y HI.out.fine.run.ok h (by have := HSZ.out.2; omega)
          obtain ⟨t, ht1, ht2, hT, I2⟩ := HI.out.crash hi40 zs
          obtain ⟨D2, hD2⟩ : ∃ D2, crashD D zs = D2 := ⟨_, rfl⟩
          rw [hD2] at hcr hT I2
          have HCR := Lib.hid hcr
          clear hcr hD2
          obtain ⟨T, hTT⟩ : ∃ T, R.take t = T := ⟨_, rfl⟩
          have hTl : T.length = t := by rw [← hTT, List.length_take]; omega
          have hJT : sects (T.map joined) = (sects (R.map joined)).take t := by rw [← hTT, List.map_take]; unfold sects; rw [List.map_take]
          rw [hTT] at hT I2
          have hop := fun (W' : World) (L : List HP) (y : Sat W W' (isDisk b D2 :: L)) => I2.open (by omega) (by have := I2.siE; have := I2.i0; omega) hT y
          rw [hTl] at hop
          have hsame := fun (W' : World) (a2 : Option Addr) (c2 : Nat) (h1 : Sees W' a2 (sects (T.map joined))) (h2 : Sees W' av (sects (R.map joined))) => sameN_ok (c := c2) (d := cv) h1 (show Sees W' av (sects (T.map joined)) from by rw [hJT]; exact h2.take t) (by rw [List.length_map, hTl]; have := HRL.out; omega) (by rw [List.length_map, hTl]; have := HRL.out; omega)
          rw [List.length_map, hTl, decide_eq_true (rfl : T.map joined = T.map joined)] at hsame
          have HI2 := Lib.hid I2
          have HOP := Lib.hid hop
          have HTL := Lib.hid hTl
          have HSAME := Lib.hid hsame
          have hEb : E ≤ 1000 := by have := HI.out.e1; omega
          have hE0 : 0 ≤ E := by have := HI.out.siE; have := HI.out.i0; omega
          have hRb := HRL.out
          obtain ⟨m, hm⟩ : ∃ m, R.length = m := ⟨_, rfl⟩
          rw [hm] at hRb ht2 hcv hsm HX HXA
          try rw [hm] at ht1
          have d1 : ¬ (t : Int) < (sure : Int) := by omega
          have d2 : ¬ (m : Int) < (t : Int) := by omega
          have d3 : decide ((t : Int) < (sure : Int)) = false := decide_eq_false d1
          have d4 : decide ((m : Int) < (t : Int)) = false := decide_eq_false d2
          clear I2 hop hsame hT hTT hTl hJT HRL
          go_wp2_with (first
            | (with_reducible refine wpList_store_pq HXA.out (⟨4, s, zs, ax, cx⟩ : Pq) ?_ ?_
               exact ⟨rfl, _, _, rfl, rfl, rfl⟩
               intro w2 hx2
               clear c0 c1 c2
               obtain ⟨t0, t1, t2⟩ := pq3 hx2
               have HX2 := Lib.hid hx2
               clear hx2 HXA)
            | (go_at_call 29; refine (HCR.out _ _ HX2.out.p2 (fun _ hW => HSA.out.1.kept hW.p3.below)).mono ?_; rintro e w3 ⟨rfl, hx3⟩; clear t0 t1 t2; have HX3 := Lib.hid hx3; clear hx3 HX2)
            | (go_at_call 18; refine (HOP.out _ _ HX3.out).mono ?_; rintro e w4 ⟨q2, v2, rfl, hx4⟩; obtain ⟨a2, c2, rfl, hcc⟩ := rowSlice hx4.p2; have HX4 := Lib.hid hx4; clear hx4 HX3)
            | (go_at_call 30; refine (HSAME.out _ _ _ (row_sees HX4.out.p2) (row_sees HX4.out.p5)).mono ?_; rintro e w5 ⟨rfl, hb⟩; have HX5 := Lib.hid (HX4.out.ofBelow hb); clear hb HX4))
          refine ⟨⟨k + 1, st, sq, si, E + 1, T, t, q2, _, D2, by omega, HI2.out, by go_num, rfl, rfl, rfl, rfl, rfl, rfl, by go_num, ?_⟩, by simp [intOf]; omega⟩
          rw [HTL.out]
          exact HX5.out.p3.tail.p3.tail.p3.tail
        · obtain ⟨t, ht1, ht2, hT, I2⟩ := HI.out.again hi40
          have hbr := fun (W' : World) (L : List HP) (y : Sat W W' (isDisk b D :: L)) => barrier_ok y HI.out.fine.run.ok (by have := HI.out.fine.run.b; omega)
          obtain ⟨D2, hD2⟩ : ∃ D2, barrierD D = D2 := ⟨_, rfl⟩
          rw [hD2] at hbr hT I2
          have HBR := Lib.hid hbr
          clear hbr hD2
          obtain ⟨T, hTT⟩ : ∃ T, R.take t = T := ⟨_, rfl⟩
          have hTl : T.length = t := by rw [← hTT, List.length_take]; omega
          have hJT : sects (T.map joined) = (sects (R.map joined)).take t := by rw [← hTT, List.map_take]; unfold sects; rw [List.map_take]
          rw [hTT] at hT I2
          have hop := fun (W' : World) (L : List HP) (y : Sat W W' (isDisk b D2 :: L)) => I2.open (by omega) (by have := I2.siE; have := I2.i0; omega) hT y
          rw [hTl] at hop
          have hsame := fun (W' : World) (a2 : Option Addr) (c2 : Nat) (h1 : Sees W' a2 (sects (T.map joined))) (h2 : Sees W' av (sects (R.map joined))) => sameN_ok (c := c2) (d := cv) h1 (show Sees W' av (sects (T.map joined)) from by rw [hJT]; exact h2.take t) (by rw [List.length_map, hTl]; have := HRL.out; omega) (by rw [List.length_map, hTl]; have := HRL.out; omega)
          rw [List.length_map, hTl, decide_eq_true (rfl : T.map joined = T.map joined)] at hsame
          have HI2 := Lib.hid I2
          have HOP := Lib.hid hop
          have HTL := Lib.hid hTl
          have HSAME := Lib.hid hsame
          have hEb : E ≤ 1000 := by have := HI.out.e1; omega
          have hE0 : 0 ≤ E := by have := HI.out.siE; have := HI.out.i0; omega
          have hRb := HRL.out
          obtain ⟨m, hm⟩ : ∃ m, R.length = m := ⟨_, rfl⟩
          rw [hm] at hRb ht2 hcv hsm HX HXA
          try rw [hm] at ht1
          have d1 : ¬ (t : Int) < (m : Int) := by omega
          have d2 : ¬ (m : Int) < (t : Int) := by omega
          have d3 : decide ((t : Int) < (m : Int)) = false := decide_eq_false d1
          have d4 : decide ((m : Int) < (t : Int)) = false := decide_eq_false d2
          clear I2 hop hsame hT hTT hTl hJT HRL
          go_wp2_with (first
            | (with_reducible refine wpList_store_pq HXA.out (⟨kd, s, zs, ax, cx⟩ : Pq) ?_ ?_
               exact ⟨rfl, _, _, rfl, rfl, rfl⟩
               intro w2 hx2
               clear c0 c1 c2
               obtain ⟨t0, t1, t2⟩ := pq3 hx2
               have HX2 := Lib.hid hx2
               clear hx2 HXA)
            | (go_at_call 25; refine (HBR.out _ _ HX2.out.p2).mono ?_; rintro e w3 ⟨rfl, hx3⟩; clear t0 t1 t2; have HX3 := Lib.hid hx3; clear hx3 HX2)
            | (go_at_call 18; refine (HOP.out _ _ HX3.out).mono ?_; rintro e w4 ⟨q2, v2, rfl, hx4⟩; obtain ⟨a2, c2, rfl, hcc⟩ := rowSlice hx4.p2; have HX4 := Lib.hid hx4; clear hx4 HX3)
            | (go_at_call 30; refine (HSAME.out _ _ _ (row_sees HX4.out.p2) (row_sees HX4.out.p5)).mono ?_; rintro e w5 ⟨rfl, hb⟩; have HX5 := Lib.hid (HX4.out.ofBelow hb); clear hb HX4))
          refine ⟨⟨k + 1, st, sq, si, E + 1, T, t, q2, _, D2, by omega, HI2.out, by go_num, rfl, rfl, rfl, rfl, rfl, rfl, by go_num, ?_⟩, by simp [intOf]; omega⟩
          rw [HTL.out]
          exact HX5.out.p3.tail.p3.tail.p3.tail
      · obtain rfl : k = len := by omega
        go_wp2_with (go_at_call 19; refine (known12_ok _).mono ?_; rintro e w' ⟨rfl, hb⟩)
        go_ret
        exact ⟨rfl, to_known12 HX.out.p3 hb⟩
  · go_enter Tryz.func7, Tryz.ntmps7
    go_wp2_with (first | (go_at_call 28; refine HL.out.mono ?_; rintro e w2 ⟨rfl, rfl⟩) | (go_at_call 19; refine (known12_ok _).mono ?_; rintro e w2 ⟨rfl, hb⟩))
    go_ret
    exact ⟨rfl, hb⟩
end Go.Proofs.YtmkpglabiikdeaaGreatDoor
