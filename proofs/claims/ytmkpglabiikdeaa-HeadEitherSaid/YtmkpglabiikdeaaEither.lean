/-
  Layer 13: HeadEither, walked.
-/
import Derived.Test.YtmkpglabiikdeaaOpenKeeps
namespace Go.Proofs.Ytmkpglabiikdeaa
open Go.ChangeShapes Go.WideShapes Go.RowKit Go.Deep PH

theorem findE_next {u0 v1 v2 v3 v4 v5 v6 : Int} (h : 0 ≤ u0) : findE ⟨u0 + 1, v1, v2, v3, v4, v5, v6⟩ = 0 := by unfold findE; rw [if_neg (by show ¬ u0 + 1 = 0; omega)]
theorem findE_no {u0 u1 u2 u3 u4 u5 u6 : Int} (h : u0 = 0) : findE ⟨u0, u1, u2, u3, u4, u5, u6⟩ = 32 := by unfold findE; rw [if_pos h]
theorem findE_yes {u0 u1 u2 u3 u4 u5 u6 : Int} (h : ¬ u0 = 0) : findE ⟨u0, u1, u2, u3, u4, u5, u6⟩ = 0 := by unfold findE; rw [if_neg h]

set_option maxRecDepth 100000 in
set_option maxHeartbeats 3200000 in
theorem headEither_ok {W : World} {l : List Hd} {fs : List Int} {ks : List Kq} {a0 a1 a2 : Option Addr} {cp0 cp1 cp2 : Nat} (hs0 : Sees W a0 (hds l)) (h64 : ∀ p ∈ l, p.Int64) (hl : l.length ≤ 9223372036854775807)
    (hs1 : SeesB W a1 fs) (hb1 : ∀ z ∈ fs, 0 ≤ z ∧ z ≤ 255) (hl1 : fs.length ≤ 9223372036854775807) (hs2 : SeesK W a2 ks) (hk2 : ∀ x ∈ ks, SeesI W x.a x.zs ∧ x.zs.length ≤ 9223372036854775807) (hl2 : ks.length ≤ 9223372036854775807) :
    Calls Try.prog 14 #[.slice a0 l.length cp0, .slice a1 fs.length cp1, .slice a2 ks.length cp2] W fun e w' => e = .returned (.bool true) ∧ Below W.heap.size W w' := by
  have HN := Lib.hid (new_ok (n := 3) (Sat.start W) (by omega) (by omega))
  have HS0 := Lib.hid hs0
  have HS1 := Lib.hid hs1
  have HS2 := Lib.hid hs2
  have H64 := Lib.hid h64
  have HB1 := Lib.hid hb1
  have HK2 := Lib.hid hk2
  clear hs0 hs1 hs2 h64 hb1 hk2
  by_cases hlen : 40 < l.length
  · go_enter Try.func14, Try.ntmps14
    go_wp2_with (first
      | (go_at_call 28; refine HN.out.mono ?_; rintro e w1 ⟨b, rfl, hx1⟩; have HX1 := Lib.hid hx1; clear hx1 HN)
      | (go_at_call 51; refine (headKnown_ok _).mono ?_; rintro e w2 ⟨rfl, hb2⟩; have HB2 := Lib.hid (HX1.out.ofBelow hb2); clear hb2))
    go_ret
    exact ⟨rfl, HB2.out.tail.below⟩
  · have hl40 : l.length ≤ 40 := by omega
    go_enter Try.func14, Try.ntmps14
    go_wp2_with (go_at_call 28; refine HN.out.mono ?_; rintro e w1 ⟨b, rfl, hx1⟩; obtain ⟨pw, hpw⟩ : ∃ p, w1.heap.size = p := ⟨_, rfl⟩; have HX1 := Lib.hid (zx hx1); rw [hpw] at HX1; clear hx1 HN)
    go_loopw [10] (fun i wr => ∃ k : Nat, k ≤ l.length ∧ i = .int .i64 k ∧ ∃ (D : Dk) (was : Hd) (n : Nat), n ≤ k ∧ Hid (InvH D was n) ∧ Sat W wr (isDisk b D :: pt pw (.cells was.cells 85) :: heapIs W :: [])) (fun i _ => l.length - (intOf i).toNat)
    case atStart => exact ⟨0, by omega, rfl, newD 3, noHd, 0, by omega, Lib.hid (invH_new (by omega) (by omega)), HX1.out.p1⟩
    case round =>
      obtain ⟨k, hk, rfl, D, was, n, hn, I, hx⟩ := hrel
      by_cases hkl : k < l.length
      · have hki : (k : Int) < l.length := by omega
        obtain ⟨V, hV⟩ : ∃ V, l[k]? = some V := ⟨_, List.getElem?_eq_getElem hkl⟩
        have hv64 := H64.out V (List.mem_of_getElem? hV)
        obtain ⟨bl, off, rfl, hr⟩ := Sees.hd HS0.out hV
        obtain ⟨u0, u1, u2, u3, u4, u5, u6⟩ := was
        obtain ⟨v0, v1, v2, v3, v4, v5, v6⟩ := V
        have hu := I.out.int64
        dsimp only at hu
        have hu0 : 0 ≤ u0 := hu.1
        have hu40 : u0 ≤ 40 := by omega
        have HU := Lib.hid hu0
        have HX := Lib.hid hx
        have HV64 := Lib.hid hv64
        clear hx hV hv64 hu
        obtain ⟨c0, -⟩ := hd7 HX.out.p1
        cases hok : okHd ⟨u0 + 1, v1, v2, v3, v4, v5, v6⟩ with
        | false =>
          have HOK := Lib.hid hok
          clear hok
          go_wp2_with (first
            | (with_reducible refine wpList_load_hd ⟨v0, v1, v2, v3, v4, v5, v6⟩ (rangeAt_kept hr HX.out.p2.below) ?_ ?_
               exact ⟨rfl, _, rfl, rfl⟩
               obtain ⟨p1, hp1⟩ : ∃ p, wr.heap.size = p := ⟨_, rfl⟩
               have HX1 := Lib.hid (zx HX.out)
               rw [hp1] at HX1
               clear HX)
            | (with_reducible refine wpList_store_hd (HX1.out) (⟨v0, v1, v2, v3, v4, v5, v6⟩) ?_ ?_; exact ⟨rfl, _, _, rfl, rfl, rfl⟩
               intro w2 hx2
               obtain ⟨d0, d1, d2, d3, d4, d5, d6⟩ := hd7 hx2
               have z0 := frozen_blk hx2.at 0
               obtain ⟨c0, -⟩ := hd7 hx2.p2
               have HX2 := Lib.hid hx2
               clear hx2 HX1)
            | (go_at_call 49
               have hx3 := HX2.out.setCell 0 (.int .i64 (u0 + 1))
               rw [show Hd.cells ⟨v0, v1, v2, v3, v4, v5, v6⟩ = #[.int .i64 v0, .int .i64 v1, .int .i64 v2, .int .i64 v3, .int .i64 v4, .int .i64 v5, .int .i64 v6] from rfl] at hx3
               simp only [List.setIfInBounds_toArray, List.set_cons_zero] at hx3
               have hck := refHdCheck_ok hx3 ⟨u0 + 1, v1, v2, v3, v4, v5, v6⟩
               rw [HOK.out, show Hd.cells ⟨u0 + 1, v1, v2, v3, v4, v5, v6⟩ = #[.int .i64 (u0 + 1), .int .i64 v1, .int .i64 v2, .int .i64 v3, .int .i64 v4, .int .i64 v5, .int .i64 v6] from rfl] at hck
               with_reducible refine hck.mono ?_
               clear hck hx3
               rintro e w4 ⟨rfl, hx4⟩
               have HX4 := Lib.hid hx4
               clear hx4 HX2))
          exact ⟨⟨k + 1, by omega, by go_num, _, _, n, by omega, I, HX4.out.tail⟩, by simp [intOf]; omega⟩
        | true =>
          have HOK := Lib.hid hok
          have hrv : ∀ f : Int, -1 ≤ f → f ≤ 100 → ∃ s0 s1 s2 s3 s4 s5 s6 e D2, saveR { D with fuse := f } 0 ⟨v0, v1, v2, v3, v4, v5, v6⟩ = (⟨s0, s1, s2, s3, s4, s5, s6⟩, e, D2) ∧ OkD D2 ∧ ∀ zs, (e = 0 ∧ (⟨s0, s1, s2, s3, s4, s5, s6⟩ : Hd) = ⟨u0 + 1, v1, v2, v3, v4, v5, v6⟩ ∧ InvH (crashD D2 zs) ⟨u0 + 1, v1, v2, v3, v4, v5, v6⟩ (n + 1)) ∨ (e = 30 ∧ (InvH (crashD D2 zs) ⟨u0, u1, u2, u3, u4, u5, u6⟩ (n + 1) ∨ InvH (crashD D2 zs) ⟨u0 + 1, v1, v2, v3, v4, v5, v6⟩ (n + 1))) := fun f f1 f2 => by
            obtain ⟨⟨s0, s1, s2, s3, s4, s5, s6⟩, e, D2, hp, ok2, ho⟩ := I.out.round2 hok HV64.out.n.2 rfl f f1 f2 (by omega)
            refine ⟨s0, s1, s2, s3, s4, s5, s6, e, D2, ?_, ok2, fun zs => ?_⟩
            · rw [saveR_fuse D f I.out ⟨v0, v1, v2, v3, v4, v5, v6⟩ hok (by omega)]; exact hp
            · rcases ho with ⟨h1, h2, h3⟩ | ⟨h1, h2⟩
              · exact .inl ⟨h1, h2, h3 zs⟩
              · exact .inr ⟨h1, h2 zs⟩
          have HFH : Hid (findE ⟨u0 + 1, v1, v2, v3, v4, v5, v6⟩ = 0) := Lib.hid (findE_next hu0)
          have HFW0 : Hid (u0 = 0 → findE ⟨u0, u1, u2, u3, u4, u5, u6⟩ = 32) := Lib.hid findE_no
          have HFW1 : Hid (¬ u0 = 0 → findE ⟨u0, u1, u2, u3, u4, u5, u6⟩ = 0) := Lib.hid findE_yes
          have hne1 : (u0 == u0 + 1) = false := beq_eq_false_iff_ne.2 (by omega)
          clear hok
          have HRV := Lib.hid hrv
          clear hrv
          have fin : ∀ f : Int, -1 ≤ f → f ≤ 100 → OkD { D with fuse := f } ∧ (∀ i, (readV { D with fuse := f } i).size ≤ 9223372036854775807) ∧ { D with fuse := f }.writes < 1000000 ∧ { D with fuse := f }.wait.length < 1000000 ∧ { D with fuse := f }.barriers < 1000000 := fun f f1 f2 =>
            ⟨I.out.okf f f1 f2, I.out.reads f, by have := I.out.wr; show D.writes < _; omega, by show D.wait.length < _; rw [I.out.wl]; decide, by have := I.out.ba; show D.barriers < _; omega⟩
          have FIN := Lib.hid fin
          clear fin
          by_cases hkf : k < fs.length
          · obtain ⟨z, hz⟩ : ∃ z, fs[k]? = some z := ⟨_, List.getElem?_eq_getElem hkf⟩
            have hzb := HB1.out z (List.mem_of_getElem? hz)
            obtain ⟨bf, off1, rfl, hzc⟩ := HS1.out k z hz
            obtain ⟨hz0, hz1⟩ := hzb
            have hkfi : (k : Int) < fs.length := by omega
            have HFZ : Hid (max (z % 4 - 1) (-1) = z % 4 - 1) := Lib.hid (by omega)
            obtain ⟨s0, s1, s2, s3, s4, s5, s6, e, D2, hsv, ok2, hout⟩ := HRV.out (z % 4 - 1) (by omega) (by omega)
            obtain ⟨okf, rdf, wrf, wlf, baf⟩ := FIN.out (z % 4 - 1) (by omega) (by omega)
            have HSV := Lib.hid hsv
            have HOK2 := Lib.hid ok2
            have HOUT := Lib.hid hout
            have HOKF := Lib.hid okf
            have HRD := Lib.hid rdf
            have HWR := Lib.hid wrf
            have HWL := Lib.hid wlf
            have HBA := Lib.hid baf
            clear hsv ok2 hout okf rdf wrf wlf baf
            by_cases hkk : k < ks.length
            · obtain ⟨kq, hkq⟩ : ∃ x, ks[k]? = some x := ⟨_, List.getElem?_eq_getElem hkk⟩
              obtain ⟨hks, hkl2⟩ := HK2.out kq (List.mem_of_getElem? hkq)
              obtain ⟨bk, off2, rfl, hkc⟩ := HS2.out k kq hkq
              have HKS := Lib.hid hks
              have HKL := Lib.hid hkl2
              have hkki : (k : Int) < ks.length := by omega
              clear hks hkq
              by_cases h60 : kq.zs.length < 60
              · have h60i : (kq.zs.length : Int) < 60 := by omega
                go_wp2_with (first
                  | (with_reducible refine wpList_load_hd ⟨v0, v1, v2, v3, v4, v5, v6⟩ (rangeAt_kept hr HX.out.p2.below) ?_ ?_
                     exact ⟨rfl, _, rfl, rfl⟩
                     obtain ⟨p1, hp1⟩ : ∃ p, wr.heap.size = p := ⟨_, rfl⟩
                     have HX1 := Lib.hid (zx HX.out)
                     rw [hp1] at HX1
                     clear HX)
                  | (with_reducible refine wpList_store_hd (HX1.out) (⟨v0, v1, v2, v3, v4, v5, v6⟩) ?_ ?_; exact ⟨rfl, _, _, rfl, rfl, rfl⟩
                     intro w2 hx2
                     obtain ⟨d0, d1, d2, d3, d4, d5, d6⟩ := hd7 hx2
                     have z0 := frozen_blk hx2.at 0
                     obtain ⟨c0, -⟩ := hd7 hx2.p2
                     have HX2 := Lib.hid hx2
                     clear hx2 HX1)
                  | (go_at_call 49
                     have hx3 := HX2.out.setCell 0 (.int .i64 (u0 + 1))
                     rw [show Hd.cells ⟨v0, v1, v2, v3, v4, v5, v6⟩ = #[.int .i64 v0, .int .i64 v1, .int .i64 v2, .int .i64 v3, .int .i64 v4, .int .i64 v5, .int .i64 v6] from rfl] at hx3
                     simp only [List.setIfInBounds_toArray, List.set_cons_zero] at hx3
                     have hck := refHdCheck_ok hx3 ⟨u0 + 1, v1, v2, v3, v4, v5, v6⟩
                     rw [HOK.out, show Hd.cells ⟨u0 + 1, v1, v2, v3, v4, v5, v6⟩ = #[.int .i64 (u0 + 1), .int .i64 v1, .int .i64 v2, .int .i64 v3, .int .i64 v4, .int .i64 v5, .int .i64 v6] from rfl] at hck
                     with_reducible refine hck.mono ?_
                     clear hck hx3
                     rintro e w4 ⟨rfl, hx4⟩
                     have hz4 := PH.kept hx4.p3.below hzc
                     have HX4 := Lib.hid hx4
                     clear hx4 HX2)
                  | (go_at_call 57
                     with_reducible refine (arm_ok HX4.out.p1 _).mono ?_
                     rintro e w5 ⟨rfl, hx5⟩
                     rw [armD_live I.out.alive] at hx5
                     rw [HFZ.out] at hx5
                     have HX5 := Lib.hid hx5
                     clear hx5 HX4)
                  | (with_reducible refine wpList_load_hd ⟨v0, v1, v2, v3, v4, v5, v6⟩ (rangeAt_kept hr HX5.out.p3.below) ?_ ?_
                     exact ⟨rfl, _, rfl, rfl⟩
                     have HX6 := HX5
                     clear HX5)
                  | (go_at_call 56
                     have hc := save_ok (at_ := 0) HX6.out HOKF.out (by omega) (by omega) HRD.out ⟨v0, v1, v2, v3, v4, v5, v6⟩ HV64.out HWR.out HWL.out HBA.out
                     rw [HSV.out, show Hd.cells ⟨v0, v1, v2, v3, v4, v5, v6⟩ = #[.int .i64 v0, .int .i64 v1, .int .i64 v2, .int .i64 v3, .int .i64 v4, .int .i64 v5, .int .i64 v6] from rfl] at hc
                     dsimp only at hc
                     with_reducible refine hc.mono ?_
                     clear hc
                     rintro e' w7 ⟨rfl, hx7⟩
                     obtain ⟨p2, hp2⟩ : ∃ p, w7.heap.size = p := ⟨_, rfl⟩
                     have HX7 := Lib.hid (zx hx7)
                     rw [hp2] at HX7
                     clear hx7 HX6)
                  | (with_reducible refine wpList_store_hd (HX7.out) (⟨s0, s1, s2, s3, s4, s5, s6⟩) ?_ ?_; exact ⟨rfl, _, _, rfl, rfl, rfl⟩
                     intro w8 hx8
                     have hkc8 := PH.kept hx8.p4.below hkc
                     have HX8 := Lib.hid hx8
                     clear hx8 HX7)
                  | (go_at_call 30
                     with_reducible refine (crash_ok (D := D2) (a := kq.a) (c := kq.c) (zs := kq.zs) HX8.out.p1 HOK2.out (fun W' hW => SeesI.kept HKS.out hW.p3.below) HKL.out).mono ?_
                     rintro e' w9 ⟨rfl, hx9⟩
                     obtain ⟨D3, hD3⟩ : ∃ D3, crashD D2 kq.zs = D3 := ⟨_, rfl⟩
                     rw [hD3] at hx9
                     have ho := HOUT.out kq.zs
                     rw [hD3] at ho
                     have HO := Lib.hid ho
                     have HX9 := Lib.hid hx9
                     clear hx9 HX8 hD3 ho)
                  | (go_at_call 55
                     rcases HO.out with ⟨rfl, hS, J⟩ | ⟨rfl, J | J⟩
                     all_goals first
                       | (cases hS; have hc := find_ok HX9.out J.ok 0 (by omega) (by omega) J.rd; rw [J.find, HFH.out] at hc; dsimp only at hc; refine hc.mono ?_; clear hc; rintro e' w10 ⟨rfl, hx10⟩; obtain ⟨p3, hp3⟩ : ∃ p, w10.heap.size = p := ⟨_, rfl⟩; have HX10h := Lib.hid (zx hx10); rw [hp3] at HX10h; have HJ := Lib.hid J; clear hx10 HX9 J HO HOUT)
                       | (have hw : InvH D3 ⟨u0, u1, u2, u3, u4, u5, u6⟩ (n + 1) := J; clear hw; by_cases hu0 : u0 = 0 <;> first | (have hfw := HFW0.out hu0; have hng : ¬ u0 > 0 := (by omega); clear hu0; have hc := find_ok HX9.out J.ok 0 (by omega) (by omega) J.rd; rw [J.find, hfw] at hc; dsimp only at hc; refine hc.mono ?_; clear hc; rintro e' w10 ⟨rfl, hx10⟩; obtain ⟨p3, hp3⟩ : ∃ p, w10.heap.size = p := ⟨_, rfl⟩; have HX10w := Lib.hid (zx hx10); rw [hp3] at HX10w; have HJ := Lib.hid J; clear hx10 HX9 J HO HOUT) | (have hgp : u0 > 0 := (by have := HU.out; omega); have hub : (u0 == 0) = false := beq_eq_false_iff_ne.2 hu0; have hc := find_ok HX9.out J.ok 0 (by omega) (by omega) J.rd; rw [J.find, HFW1.out hu0] at hc; dsimp only at hc; refine hc.mono ?_; clear hc; rintro e' w10 ⟨rfl, hx10⟩; obtain ⟨p3, hp3⟩ : ∃ p, w10.heap.size = p := ⟨_, rfl⟩; have HX10w := Lib.hid (zx hx10); rw [hp3] at HX10w; have HJ := Lib.hid J; clear hx10 HX9 J HO HOUT))
                       | (skip; have hc := find_ok HX9.out J.ok 0 (by omega) (by omega) J.rd; rw [J.find, HFH.out] at hc; dsimp only at hc; refine hc.mono ?_; clear hc; rintro e' w10 ⟨rfl, hx10⟩; obtain ⟨p3, hp3⟩ : ∃ p, w10.heap.size = p := ⟨_, rfl⟩; have HX10h := Lib.hid (zx hx10); rw [hp3] at HX10h; have HJ := Lib.hid J; clear hx10 HX9 J HO HOUT))
                  | (with_reducible refine wpList_store_hd (HX10h.out) (⟨u0 + 1, v1, v2, v3, v4, v5, v6⟩) ?_ ?_; exact ⟨rfl, _, _, rfl, rfl, rfl⟩
                     intro w11 hx11
                     obtain ⟨m0, m1, m2, m3, m4, m5, m6⟩ := hd7 hx11
                     obtain ⟨n0, n1, n2, n3, n4, n5, n6⟩ := hd7 hx11.p2
                     obtain ⟨d0, d1, d2, d3, d4, d5, d6⟩ := hd7 hx11.p3
                     obtain ⟨o0, o1, o2, o3, o4, o5, o6⟩ := hd7 hx11.p4
                     have HX11 := Lib.hid hx11
                     clear hx11 HX10h)
                  | (with_reducible refine wpList_store_hd (HX10w.out) (⟨u0, u1, u2, u3, u4, u5, u6⟩) ?_ ?_; exact ⟨rfl, _, _, rfl, rfl, rfl⟩
                     intro w11 hx11
                     obtain ⟨m0, m1, m2, m3, m4, m5, m6⟩ := hd7 hx11
                     obtain ⟨n0, n1, n2, n3, n4, n5, n6⟩ := hd7 hx11.p2
                     obtain ⟨d0, d1, d2, d3, d4, d5, d6⟩ := hd7 hx11.p3
                     obtain ⟨o0, o1, o2, o3, o4, o5, o6⟩ := hd7 hx11.p4
                     have HX11 := Lib.hid hx11
                     clear hx11 HX10w)
                  | (with_reducible refine wpList_store_hd (HX11.out.p4) (⟨u0 + 1, v1, v2, v3, v4, v5, v6⟩) ?_ ?_; exact ⟨rfl, _, _, rfl, rfl, rfl⟩
                     intro w12 hx12
                     have HX12 := Lib.hid hx12.p1.tail.p1.p2.tail.p2.tail
                     clear hx12 HX11)
                  | (with_reducible refine wpList_store_hd (HX11.out.p4) (⟨u0, u1, u2, u3, u4, u5, u6⟩) ?_ ?_; exact ⟨rfl, _, _, rfl, rfl, rfl⟩
                     intro w12 hx12
                     have HX12 := Lib.hid hx12.p1.tail.p1.p2.tail.p2.tail
                     clear hx12 HX11))
                all_goals exact ⟨⟨k + 1, by omega, by go_num, _, _, n + 1, by omega, HJ, HX12.out⟩, by simp [intOf]; omega⟩
              · have h60i : ¬ (kq.zs.length : Int) < 60 := by omega
                go_wp2_with (first
                  | (with_reducible refine wpList_load_hd ⟨v0, v1, v2, v3, v4, v5, v6⟩ (rangeAt_kept hr HX.out.p2.below) ?_ ?_
                     exact ⟨rfl, _, rfl, rfl⟩
                     obtain ⟨p1, hp1⟩ : ∃ p, wr.heap.size = p := ⟨_, rfl⟩
                     have HX1 := Lib.hid (zx HX.out)
                     rw [hp1] at HX1
                     clear HX)
                  | (with_reducible refine wpList_store_hd (HX1.out) (⟨v0, v1, v2, v3, v4, v5, v6⟩) ?_ ?_; exact ⟨rfl, _, _, rfl, rfl, rfl⟩
                     intro w2 hx2
                     obtain ⟨d0, d1, d2, d3, d4, d5, d6⟩ := hd7 hx2
                     have z0 := frozen_blk hx2.at 0
                     obtain ⟨c0, -⟩ := hd7 hx2.p2
                     have HX2 := Lib.hid hx2
                     clear hx2 HX1)
                  | (go_at_call 49
                     have hx3 := HX2.out.setCell 0 (.int .i64 (u0 + 1))
                     rw [show Hd.cells ⟨v0, v1, v2, v3, v4, v5, v6⟩ = #[.int .i64 v0, .int .i64 v1, .int .i64 v2, .int .i64 v3, .int .i64 v4, .int .i64 v5, .int .i64 v6] from rfl] at hx3
                     simp only [List.setIfInBounds_toArray, List.set_cons_zero] at hx3
                     have hck := refHdCheck_ok hx3 ⟨u0 + 1, v1, v2, v3, v4, v5, v6⟩
                     rw [HOK.out, show Hd.cells ⟨u0 + 1, v1, v2, v3, v4, v5, v6⟩ = #[.int .i64 (u0 + 1), .int .i64 v1, .int .i64 v2, .int .i64 v3, .int .i64 v4, .int .i64 v5, .int .i64 v6] from rfl] at hck
                     with_reducible refine hck.mono ?_
                     clear hck hx3
                     rintro e w4 ⟨rfl, hx4⟩
                     have hz4 := PH.kept hx4.p3.below hzc
                     have HX4 := Lib.hid hx4
                     clear hx4 HX2)
                  | (go_at_call 57
                     with_reducible refine (arm_ok HX4.out.p1 _).mono ?_
                     rintro e w5 ⟨rfl, hx5⟩
                     rw [armD_live I.out.alive] at hx5
                     rw [HFZ.out] at hx5
                     have HX5 := Lib.hid hx5
                     clear hx5 HX4)
                  | (with_reducible refine wpList_load_hd ⟨v0, v1, v2, v3, v4, v5, v6⟩ (rangeAt_kept hr HX5.out.p3.below) ?_ ?_
                     exact ⟨rfl, _, rfl, rfl⟩
                     have HX6 := HX5
                     clear HX5)
                  | (go_at_call 56
                     have hc := save_ok (at_ := 0) HX6.out HOKF.out (by omega) (by omega) HRD.out ⟨v0, v1, v2, v3, v4, v5, v6⟩ HV64.out HWR.out HWL.out HBA.out
                     rw [HSV.out, show Hd.cells ⟨v0, v1, v2, v3, v4, v5, v6⟩ = #[.int .i64 v0, .int .i64 v1, .int .i64 v2, .int .i64 v3, .int .i64 v4, .int .i64 v5, .int .i64 v6] from rfl] at hc
                     dsimp only at hc
                     with_reducible refine hc.mono ?_
                     clear hc
                     rintro e' w7 ⟨rfl, hx7⟩
                     obtain ⟨p2, hp2⟩ : ∃ p, w7.heap.size = p := ⟨_, rfl⟩
                     have HX7 := Lib.hid (zx hx7)
                     rw [hp2] at HX7
                     clear hx7 HX6)
                  | (with_reducible refine wpList_store_hd (HX7.out) (⟨s0, s1, s2, s3, s4, s5, s6⟩) ?_ ?_; exact ⟨rfl, _, _, rfl, rfl, rfl⟩
                     intro w8 hx8
                     have hkc8 := PH.kept hx8.p4.below hkc
                     have HX8 := Lib.hid hx8
                     clear hx8 HX7)
                  | (go_at_call 30
                     refine (crash_ok (D := D2) (a := none) (c := 0) (zs := []) HX8.out.p1 HOK2.out (fun W' hW j u hj => by simp at hj) (by simp)).mono ?_
                     rintro e' w9 ⟨rfl, hx9⟩
                     obtain ⟨D3, hD3⟩ : ∃ D3, crashD D2 [] = D3 := ⟨_, rfl⟩
                     rw [hD3] at hx9
                     have ho := HOUT.out []
                     rw [hD3] at ho
                     have HO := Lib.hid ho
                     have HX9 := Lib.hid hx9
                     clear hx9 HX8 hD3 ho)
                  | (go_at_call 55
                     rcases HO.out with ⟨rfl, hS, J⟩ | ⟨rfl, J | J⟩
                     all_goals first
                       | (cases hS; have hc := find_ok HX9.out J.ok 0 (by omega) (by omega) J.rd; rw [J.find, HFH.out] at hc; dsimp only at hc; refine hc.mono ?_; clear hc; rintro e' w10 ⟨rfl, hx10⟩; obtain ⟨p3, hp3⟩ : ∃ p, w10.heap.size = p := ⟨_, rfl⟩; have HX10h := Lib.hid (zx hx10); rw [hp3] at HX10h; have HJ := Lib.hid J; clear hx10 HX9 J HO HOUT)
                       | (have hw : InvH D3 ⟨u0, u1, u2, u3, u4, u5, u6⟩ (n + 1) := J; clear hw; by_cases hu0 : u0 = 0 <;> first | (have hfw := HFW0.out hu0; have hng : ¬ u0 > 0 := (by omega); clear hu0; have hc := find_ok HX9.out J.ok 0 (by omega) (by omega) J.rd; rw [J.find, hfw] at hc; dsimp only at hc; refine hc.mono ?_; clear hc; rintro e' w10 ⟨rfl, hx10⟩; obtain ⟨p3, hp3⟩ : ∃ p, w10.heap.size = p := ⟨_, rfl⟩; have HX10w := Lib.hid (zx hx10); rw [hp3] at HX10w; have HJ := Lib.hid J; clear hx10 HX9 J HO HOUT) | (have hgp : u0 > 0 := (by have := HU.out; omega); have hub : (u0 == 0) = false := beq_eq_false_iff_ne.2 hu0; have hc := find_ok HX9.out J.ok 0 (by omega) (by omega) J.rd; rw [J.find, HFW1.out hu0] at hc; dsimp only at hc; refine hc.mono ?_; clear hc; rintro e' w10 ⟨rfl, hx10⟩; obtain ⟨p3, hp3⟩ : ∃ p, w10.heap.size = p := ⟨_, rfl⟩; have HX10w := Lib.hid (zx hx10); rw [hp3] at HX10w; have HJ := Lib.hid J; clear hx10 HX9 J HO HOUT))
                       | (skip; have hc := find_ok HX9.out J.ok 0 (by omega) (by omega) J.rd; rw [J.find, HFH.out] at hc; dsimp only at hc; refine hc.mono ?_; clear hc; rintro e' w10 ⟨rfl, hx10⟩; obtain ⟨p3, hp3⟩ : ∃ p, w10.heap.size = p := ⟨_, rfl⟩; have HX10h := Lib.hid (zx hx10); rw [hp3] at HX10h; have HJ := Lib.hid J; clear hx10 HX9 J HO HOUT))
                  | (with_reducible refine wpList_store_hd (HX10h.out) (⟨u0 + 1, v1, v2, v3, v4, v5, v6⟩) ?_ ?_; exact ⟨rfl, _, _, rfl, rfl, rfl⟩
                     intro w11 hx11
                     obtain ⟨m0, m1, m2, m3, m4, m5, m6⟩ := hd7 hx11
                     obtain ⟨n0, n1, n2, n3, n4, n5, n6⟩ := hd7 hx11.p2
                     obtain ⟨d0, d1, d2, d3, d4, d5, d6⟩ := hd7 hx11.p3
                     obtain ⟨o0, o1, o2, o3, o4, o5, o6⟩ := hd7 hx11.p4
                     have HX11 := Lib.hid hx11
                     clear hx11 HX10h)
                  | (with_reducible refine wpList_store_hd (HX10w.out) (⟨u0, u1, u2, u3, u4, u5, u6⟩) ?_ ?_; exact ⟨rfl, _, _, rfl, rfl, rfl⟩
                     intro w11 hx11
                     obtain ⟨m0, m1, m2, m3, m4, m5, m6⟩ := hd7 hx11
                     obtain ⟨n0, n1, n2, n3, n4, n5, n6⟩ := hd7 hx11.p2
                     obtain ⟨d0, d1, d2, d3, d4, d5, d6⟩ := hd7 hx11.p3
                     obtain ⟨o0, o1, o2, o3, o4, o5, o6⟩ := hd7 hx11.p4
                     have HX11 := Lib.hid hx11
                     clear hx11 HX10w)
                  | (with_reducible refine wpList_store_hd (HX11.out.p4) (⟨u0 + 1, v1, v2, v3, v4, v5, v6⟩) ?_ ?_; exact ⟨rfl, _, _, rfl, rfl, rfl⟩
                     intro w12 hx12
                     have HX12 := Lib.hid hx12.p1.tail.p1.p2.tail.p2.tail
                     clear hx12 HX11)
                  | (with_reducible refine wpList_store_hd (HX11.out.p4) (⟨u0, u1, u2, u3, u4, u5, u6⟩) ?_ ?_; exact ⟨rfl, _, _, rfl, rfl, rfl⟩
                     intro w12 hx12
                     have HX12 := Lib.hid hx12.p1.tail.p1.p2.tail.p2.tail
                     clear hx12 HX11))
                all_goals exact ⟨⟨k + 1, by omega, by go_num, _, _, n + 1, by omega, HJ, HX12.out⟩, by simp [intOf]; omega⟩
            · have hkki : ¬ (k : Int) < ks.length := by omega
              go_wp2_with (first
                | (with_reducible refine wpList_load_hd ⟨v0, v1, v2, v3, v4, v5, v6⟩ (rangeAt_kept hr HX.out.p2.below) ?_ ?_
                   exact ⟨rfl, _, rfl, rfl⟩
                   obtain ⟨p1, hp1⟩ : ∃ p, wr.heap.size = p := ⟨_, rfl⟩
                   have HX1 := Lib.hid (zx HX.out)
                   rw [hp1] at HX1
                   clear HX)
                | (with_reducible refine wpList_store_hd (HX1.out) (⟨v0, v1, v2, v3, v4, v5, v6⟩) ?_ ?_; exact ⟨rfl, _, _, rfl, rfl, rfl⟩
                   intro w2 hx2
                   obtain ⟨d0, d1, d2, d3, d4, d5, d6⟩ := hd7 hx2
                   have z0 := frozen_blk hx2.at 0
                   obtain ⟨c0, -⟩ := hd7 hx2.p2
                   have HX2 := Lib.hid hx2
                   clear hx2 HX1)
                | (go_at_call 49
                   have hx3 := HX2.out.setCell 0 (.int .i64 (u0 + 1))
                   rw [show Hd.cells ⟨v0, v1, v2, v3, v4, v5, v6⟩ = #[.int .i64 v0, .int .i64 v1, .int .i64 v2, .int .i64 v3, .int .i64 v4, .int .i64 v5, .int .i64 v6] from rfl] at hx3
                   simp only [List.setIfInBounds_toArray, List.set_cons_zero] at hx3
                   have hck := refHdCheck_ok hx3 ⟨u0 + 1, v1, v2, v3, v4, v5, v6⟩
                   rw [HOK.out, show Hd.cells ⟨u0 + 1, v1, v2, v3, v4, v5, v6⟩ = #[.int .i64 (u0 + 1), .int .i64 v1, .int .i64 v2, .int .i64 v3, .int .i64 v4, .int .i64 v5, .int .i64 v6] from rfl] at hck
                   with_reducible refine hck.mono ?_
                   clear hck hx3
                   rintro e w4 ⟨rfl, hx4⟩
                   have hz4 := PH.kept hx4.p3.below hzc
                   have HX4 := Lib.hid hx4
                   clear hx4 HX2)
                | (go_at_call 57
                   with_reducible refine (arm_ok HX4.out.p1 _).mono ?_
                   rintro e w5 ⟨rfl, hx5⟩
                   rw [armD_live I.out.alive] at hx5
                   rw [HFZ.out] at hx5
                   have HX5 := Lib.hid hx5
                   clear hx5 HX4)
                | (with_reducible refine wpList_load_hd ⟨v0, v1, v2, v3, v4, v5, v6⟩ (rangeAt_kept hr HX5.out.p3.below) ?_ ?_
                   exact ⟨rfl, _, rfl, rfl⟩
                   have HX6 := HX5
                   clear HX5)
                | (go_at_call 56
                   have hc := save_ok (at_ := 0) HX6.out HOKF.out (by omega) (by omega) HRD.out ⟨v0, v1, v2, v3, v4, v5, v6⟩ HV64.out HWR.out HWL.out HBA.out
                   rw [HSV.out, show Hd.cells ⟨v0, v1, v2, v3, v4, v5, v6⟩ = #[.int .i64 v0, .int .i64 v1, .int .i64 v2, .int .i64 v3, .int .i64 v4, .int .i64 v5, .int .i64 v6] from rfl] at hc
                   dsimp only at hc
                   with_reducible refine hc.mono ?_
                   clear hc
                   rintro e' w7 ⟨rfl, hx7⟩
                   obtain ⟨p2, hp2⟩ : ∃ p, w7.heap.size = p := ⟨_, rfl⟩
                   have HX7 := Lib.hid (zx hx7)
                   rw [hp2] at HX7
                   clear hx7 HX6)
                | (with_reducible refine wpList_store_hd (HX7.out) (⟨s0, s1, s2, s3, s4, s5, s6⟩) ?_ ?_; exact ⟨rfl, _, _, rfl, rfl, rfl⟩
                   intro w8 hx8
                   have HX8 := Lib.hid hx8
                   clear hx8 HX7)
                | (go_at_call 30
                   refine (crash_ok (D := D2) (a := none) (c := 0) (zs := []) HX8.out.p1 HOK2.out (fun W' hW j u hj => by simp at hj) (by simp)).mono ?_
                   rintro e' w9 ⟨rfl, hx9⟩
                   obtain ⟨D3, hD3⟩ : ∃ D3, crashD D2 [] = D3 := ⟨_, rfl⟩
                   rw [hD3] at hx9
                   have ho := HOUT.out []
                   rw [hD3] at ho
                   have HO := Lib.hid ho
                   have HX9 := Lib.hid hx9
                   clear hx9 HX8 hD3 ho)
                | (go_at_call 55
                   rcases HO.out with ⟨rfl, hS, J⟩ | ⟨rfl, J | J⟩
                   all_goals first
                     | (cases hS; have hc := find_ok HX9.out J.ok 0 (by omega) (by omega) J.rd; rw [J.find, HFH.out] at hc; dsimp only at hc; refine hc.mono ?_; clear hc; rintro e' w10 ⟨rfl, hx10⟩; obtain ⟨p3, hp3⟩ : ∃ p, w10.heap.size = p := ⟨_, rfl⟩; have HX10h := Lib.hid (zx hx10); rw [hp3] at HX10h; have HJ := Lib.hid J; clear hx10 HX9 J HO HOUT)
                     | (have hw : InvH D3 ⟨u0, u1, u2, u3, u4, u5, u6⟩ (n + 1) := J; clear hw; by_cases hu0 : u0 = 0 <;> first | (have hfw := HFW0.out hu0; have hng : ¬ u0 > 0 := (by omega); clear hu0; have hc := find_ok HX9.out J.ok 0 (by omega) (by omega) J.rd; rw [J.find, hfw] at hc; dsimp only at hc; refine hc.mono ?_; clear hc; rintro e' w10 ⟨rfl, hx10⟩; obtain ⟨p3, hp3⟩ : ∃ p, w10.heap.size = p := ⟨_, rfl⟩; have HX10w := Lib.hid (zx hx10); rw [hp3] at HX10w; have HJ := Lib.hid J; clear hx10 HX9 J HO HOUT) | (have hgp : u0 > 0 := (by have := HU.out; omega); have hub : (u0 == 0) = false := beq_eq_false_iff_ne.2 hu0; have hc := find_ok HX9.out J.ok 0 (by omega) (by omega) J.rd; rw [J.find, HFW1.out hu0] at hc; dsimp only at hc; refine hc.mono ?_; clear hc; rintro e' w10 ⟨rfl, hx10⟩; obtain ⟨p3, hp3⟩ : ∃ p, w10.heap.size = p := ⟨_, rfl⟩; have HX10w := Lib.hid (zx hx10); rw [hp3] at HX10w; have HJ := Lib.hid J; clear hx10 HX9 J HO HOUT))
                     | (skip; have hc := find_ok HX9.out J.ok 0 (by omega) (by omega) J.rd; rw [J.find, HFH.out] at hc; dsimp only at hc; refine hc.mono ?_; clear hc; rintro e' w10 ⟨rfl, hx10⟩; obtain ⟨p3, hp3⟩ : ∃ p, w10.heap.size = p := ⟨_, rfl⟩; have HX10h := Lib.hid (zx hx10); rw [hp3] at HX10h; have HJ := Lib.hid J; clear hx10 HX9 J HO HOUT))
                | (with_reducible refine wpList_store_hd (HX10h.out) (⟨u0 + 1, v1, v2, v3, v4, v5, v6⟩) ?_ ?_; exact ⟨rfl, _, _, rfl, rfl, rfl⟩
                   intro w11 hx11
                   obtain ⟨m0, m1, m2, m3, m4, m5, m6⟩ := hd7 hx11
                   obtain ⟨n0, n1, n2, n3, n4, n5, n6⟩ := hd7 hx11.p2
                   obtain ⟨d0, d1, d2, d3, d4, d5, d6⟩ := hd7 hx11.p3
                   obtain ⟨o0, o1, o2, o3, o4, o5, o6⟩ := hd7 hx11.p4
                   have HX11 := Lib.hid hx11
                   clear hx11 HX10h)
                | (with_reducible refine wpList_store_hd (HX10w.out) (⟨u0, u1, u2, u3, u4, u5, u6⟩) ?_ ?_; exact ⟨rfl, _, _, rfl, rfl, rfl⟩
                   intro w11 hx11
                   obtain ⟨m0, m1, m2, m3, m4, m5, m6⟩ := hd7 hx11
                   obtain ⟨n0, n1, n2, n3, n4, n5, n6⟩ := hd7 hx11.p2
                   obtain ⟨d0, d1, d2, d3, d4, d5, d6⟩ := hd7 hx11.p3
                   obtain ⟨o0, o1, o2, o3, o4, o5, o6⟩ := hd7 hx11.p4
                   have HX11 := Lib.hid hx11
                   clear hx11 HX10w)
                | (with_reducible refine wpList_store_hd (HX11.out.p4) (⟨u0 + 1, v1, v2, v3, v4, v5, v6⟩) ?_ ?_; exact ⟨rfl, _, _, rfl, rfl, rfl⟩
                   intro w12 hx12
                   have HX12 := Lib.hid hx12.p1.tail.p1.p2.tail.p2.tail
                   clear hx12 HX11)
                | (with_reducible refine wpList_store_hd (HX11.out.p4) (⟨u0, u1, u2, u3, u4, u5, u6⟩) ?_ ?_; exact ⟨rfl, _, _, rfl, rfl, rfl⟩
                   intro w12 hx12
                   have HX12 := Lib.hid hx12.p1.tail.p1.p2.tail.p2.tail
                   clear hx12 HX11))
              all_goals exact ⟨⟨k + 1, by omega, by go_num, _, _, n + 1, by omega, HJ, HX12.out⟩, by simp [intOf]; omega⟩
          · have hkfi : ¬ (k : Int) < fs.length := by omega
            have HDF : Hid (D = { D with fuse := -1 }) := Lib.hid (by have h := I.out.fu; cases D; dsimp only at h; subst h; rfl)
            obtain ⟨s0, s1, s2, s3, s4, s5, s6, e, D2, hsv, ok2, hout⟩ := HRV.out (-1) (by omega) (by omega)
            obtain ⟨okf, rdf, wrf, wlf, baf⟩ := FIN.out (-1) (by omega) (by omega)
            have HSV := Lib.hid hsv
            have HOK2 := Lib.hid ok2
            have HOUT := Lib.hid hout
            have HOKF := Lib.hid okf
            have HRD := Lib.hid rdf
            have HWR := Lib.hid wrf
            have HWL := Lib.hid wlf
            have HBA := Lib.hid baf
            clear hsv ok2 hout okf rdf wrf wlf baf
            by_cases hkk : k < ks.length
            · obtain ⟨kq, hkq⟩ : ∃ x, ks[k]? = some x := ⟨_, List.getElem?_eq_getElem hkk⟩
              obtain ⟨hks, hkl2⟩ := HK2.out kq (List.mem_of_getElem? hkq)
              obtain ⟨bk, off2, rfl, hkc⟩ := HS2.out k kq hkq
              have HKS := Lib.hid hks
              have HKL := Lib.hid hkl2
              have hkki : (k : Int) < ks.length := by omega
              clear hks hkq
              by_cases h60 : kq.zs.length < 60
              · have h60i : (kq.zs.length : Int) < 60 := by omega
                go_wp2_with (first
                  | (with_reducible refine wpList_load_hd ⟨v0, v1, v2, v3, v4, v5, v6⟩ (rangeAt_kept hr HX.out.p2.below) ?_ ?_
                     exact ⟨rfl, _, rfl, rfl⟩
                     obtain ⟨p1, hp1⟩ : ∃ p, wr.heap.size = p := ⟨_, rfl⟩
                     have HX1 := Lib.hid (zx HX.out)
                     rw [hp1] at HX1
                     clear HX)
                  | (with_reducible refine wpList_store_hd (HX1.out) (⟨v0, v1, v2, v3, v4, v5, v6⟩) ?_ ?_; exact ⟨rfl, _, _, rfl, rfl, rfl⟩
                     intro w2 hx2
                     obtain ⟨d0, d1, d2, d3, d4, d5, d6⟩ := hd7 hx2
                     have z0 := frozen_blk hx2.at 0
                     obtain ⟨c0, -⟩ := hd7 hx2.p2
                     have HX2 := Lib.hid hx2
                     clear hx2 HX1)
                  | (go_at_call 49
                     have hx3 := HX2.out.setCell 0 (.int .i64 (u0 + 1))
                     rw [show Hd.cells ⟨v0, v1, v2, v3, v4, v5, v6⟩ = #[.int .i64 v0, .int .i64 v1, .int .i64 v2, .int .i64 v3, .int .i64 v4, .int .i64 v5, .int .i64 v6] from rfl] at hx3
                     simp only [List.setIfInBounds_toArray, List.set_cons_zero] at hx3
                     have hck := refHdCheck_ok hx3 ⟨u0 + 1, v1, v2, v3, v4, v5, v6⟩
                     rw [HOK.out, show Hd.cells ⟨u0 + 1, v1, v2, v3, v4, v5, v6⟩ = #[.int .i64 (u0 + 1), .int .i64 v1, .int .i64 v2, .int .i64 v3, .int .i64 v4, .int .i64 v5, .int .i64 v6] from rfl] at hck
                     with_reducible refine hck.mono ?_
                     clear hck hx3
                     rintro e w4 ⟨rfl, hx4⟩
                     have hx5 := hx4.p1
                     rw [HDF.out] at hx5
                     have HX5 := Lib.hid hx5
                     clear hx4 hx5 HX2)
                  | (with_reducible refine wpList_load_hd ⟨v0, v1, v2, v3, v4, v5, v6⟩ (rangeAt_kept hr HX5.out.p3.below) ?_ ?_
                     exact ⟨rfl, _, rfl, rfl⟩
                     have HX6 := HX5
                     clear HX5)
                  | (go_at_call 56
                     have hc := save_ok (at_ := 0) HX6.out HOKF.out (by omega) (by omega) HRD.out ⟨v0, v1, v2, v3, v4, v5, v6⟩ HV64.out HWR.out HWL.out HBA.out
                     rw [HSV.out, show Hd.cells ⟨v0, v1, v2, v3, v4, v5, v6⟩ = #[.int .i64 v0, .int .i64 v1, .int .i64 v2, .int .i64 v3, .int .i64 v4, .int .i64 v5, .int .i64 v6] from rfl] at hc
                     dsimp only at hc
                     with_reducible refine hc.mono ?_
                     clear hc
                     rintro e' w7 ⟨rfl, hx7⟩
                     obtain ⟨p2, hp2⟩ : ∃ p, w7.heap.size = p := ⟨_, rfl⟩
                     have HX7 := Lib.hid (zx hx7)
                     rw [hp2] at HX7
                     clear hx7 HX6)
                  | (with_reducible refine wpList_store_hd (HX7.out) (⟨s0, s1, s2, s3, s4, s5, s6⟩) ?_ ?_; exact ⟨rfl, _, _, rfl, rfl, rfl⟩
                     intro w8 hx8
                     have hkc8 := PH.kept hx8.p4.below hkc
                     have HX8 := Lib.hid hx8
                     clear hx8 HX7)
                  | (go_at_call 30
                     with_reducible refine (crash_ok (D := D2) (a := kq.a) (c := kq.c) (zs := kq.zs) HX8.out.p1 HOK2.out (fun W' hW => SeesI.kept HKS.out hW.p3.below) HKL.out).mono ?_
                     rintro e' w9 ⟨rfl, hx9⟩
                     obtain ⟨D3, hD3⟩ : ∃ D3, crashD D2 kq.zs = D3 := ⟨_, rfl⟩
                     rw [hD3] at hx9
                     have ho := HOUT.out kq.zs
                     rw [hD3] at ho
                     have HO := Lib.hid ho
                     have HX9 := Lib.hid hx9
                     clear hx9 HX8 hD3 ho)
                  | (go_at_call 55
                     rcases HO.out with ⟨rfl, hS, J⟩ | ⟨rfl, J | J⟩
                     all_goals first
                       | (cases hS; have hc := find_ok HX9.out J.ok 0 (by omega) (by omega) J.rd; rw [J.find, HFH.out] at hc; dsimp only at hc; refine hc.mono ?_; clear hc; rintro e' w10 ⟨rfl, hx10⟩; obtain ⟨p3, hp3⟩ : ∃ p, w10.heap.size = p := ⟨_, rfl⟩; have HX10h := Lib.hid (zx hx10); rw [hp3] at HX10h; have HJ := Lib.hid J; clear hx10 HX9 J HO HOUT)
                       | (have hw : InvH D3 ⟨u0, u1, u2, u3, u4, u5, u6⟩ (n + 1) := J; clear hw; by_cases hu0 : u0 = 0 <;> first | (have hfw := HFW0.out hu0; have hng : ¬ u0 > 0 := (by omega); clear hu0; have hc := find_ok HX9.out J.ok 0 (by omega) (by omega) J.rd; rw [J.find, hfw] at hc; dsimp only at hc; refine hc.mono ?_; clear hc; rintro e' w10 ⟨rfl, hx10⟩; obtain ⟨p3, hp3⟩ : ∃ p, w10.heap.size = p := ⟨_, rfl⟩; have HX10w := Lib.hid (zx hx10); rw [hp3] at HX10w; have HJ := Lib.hid J; clear hx10 HX9 J HO HOUT) | (have hgp : u0 > 0 := (by have := HU.out; omega); have hub : (u0 == 0) = false := beq_eq_false_iff_ne.2 hu0; have hc := find_ok HX9.out J.ok 0 (by omega) (by omega) J.rd; rw [J.find, HFW1.out hu0] at hc; dsimp only at hc; refine hc.mono ?_; clear hc; rintro e' w10 ⟨rfl, hx10⟩; obtain ⟨p3, hp3⟩ : ∃ p, w10.heap.size = p := ⟨_, rfl⟩; have HX10w := Lib.hid (zx hx10); rw [hp3] at HX10w; have HJ := Lib.hid J; clear hx10 HX9 J HO HOUT))
                       | (skip; have hc := find_ok HX9.out J.ok 0 (by omega) (by omega) J.rd; rw [J.find, HFH.out] at hc; dsimp only at hc; refine hc.mono ?_; clear hc; rintro e' w10 ⟨rfl, hx10⟩; obtain ⟨p3, hp3⟩ : ∃ p, w10.heap.size = p := ⟨_, rfl⟩; have HX10h := Lib.hid (zx hx10); rw [hp3] at HX10h; have HJ := Lib.hid J; clear hx10 HX9 J HO HOUT))
                  | (with_reducible refine wpList_store_hd (HX10h.out) (⟨u0 + 1, v1, v2, v3, v4, v5, v6⟩) ?_ ?_; exact ⟨rfl, _, _, rfl, rfl, rfl⟩
                     intro w11 hx11
                     obtain ⟨m0, m1, m2, m3, m4, m5, m6⟩ := hd7 hx11
                     obtain ⟨n0, n1, n2, n3, n4, n5, n6⟩ := hd7 hx11.p2
                     obtain ⟨d0, d1, d2, d3, d4, d5, d6⟩ := hd7 hx11.p3
                     obtain ⟨o0, o1, o2, o3, o4, o5, o6⟩ := hd7 hx11.p4
                     have HX11 := Lib.hid hx11
                     clear hx11 HX10h)
                  | (with_reducible refine wpList_store_hd (HX10w.out) (⟨u0, u1, u2, u3, u4, u5, u6⟩) ?_ ?_; exact ⟨rfl, _, _, rfl, rfl, rfl⟩
                     intro w11 hx11
                     obtain ⟨m0, m1, m2, m3, m4, m5, m6⟩ := hd7 hx11
                     obtain ⟨n0, n1, n2, n3, n4, n5, n6⟩ := hd7 hx11.p2
                     obtain ⟨d0, d1, d2, d3, d4, d5, d6⟩ := hd7 hx11.p3
                     obtain ⟨o0, o1, o2, o3, o4, o5, o6⟩ := hd7 hx11.p4
                     have HX11 := Lib.hid hx11
                     clear hx11 HX10w)
                  | (with_reducible refine wpList_store_hd (HX11.out.p4) (⟨u0 + 1, v1, v2, v3, v4, v5, v6⟩) ?_ ?_; exact ⟨rfl, _, _, rfl, rfl, rfl⟩
                     intro w12 hx12
                     have HX12 := Lib.hid hx12.p1.tail.p1.p2.tail.p2.tail
                     clear hx12 HX11)
                  | (with_reducible refine wpList_store_hd (HX11.out.p4) (⟨u0, u1, u2, u3, u4, u5, u6⟩) ?_ ?_; exact ⟨rfl, _, _, rfl, rfl, rfl⟩
                     intro w12 hx12
                     have HX12 := Lib.hid hx12.p1.tail.p1.p2.tail.p2.tail
                     clear hx12 HX11))
                all_goals exact ⟨⟨k + 1, by omega, by go_num, _, _, n + 1, by omega, HJ, HX12.out⟩, by simp [intOf]; omega⟩
              · have h60i : ¬ (kq.zs.length : Int) < 60 := by omega
                go_wp2_with (first
                  | (with_reducible refine wpList_load_hd ⟨v0, v1, v2, v3, v4, v5, v6⟩ (rangeAt_kept hr HX.out.p2.below) ?_ ?_
                     exact ⟨rfl, _, rfl, rfl⟩
                     obtain ⟨p1, hp1⟩ : ∃ p, wr.heap.size = p := ⟨_, rfl⟩
                     have HX1 := Lib.hid (zx HX.out)
                     rw [hp1] at HX1
                     clear HX)
                  | (with_reducible refine wpList_store_hd (HX1.out) (⟨v0, v1, v2, v3, v4, v5, v6⟩) ?_ ?_; exact ⟨rfl, _, _, rfl, rfl, rfl⟩
                     intro w2 hx2
                     obtain ⟨d0, d1, d2, d3, d4, d5, d6⟩ := hd7 hx2
                     have z0 := frozen_blk hx2.at 0
                     obtain ⟨c0, -⟩ := hd7 hx2.p2
                     have HX2 := Lib.hid hx2
                     clear hx2 HX1)
                  | (go_at_call 49
                     have hx3 := HX2.out.setCell 0 (.int .i64 (u0 + 1))
                     rw [show Hd.cells ⟨v0, v1, v2, v3, v4, v5, v6⟩ = #[.int .i64 v0, .int .i64 v1, .int .i64 v2, .int .i64 v3, .int .i64 v4, .int .i64 v5, .int .i64 v6] from rfl] at hx3
                     simp only [List.setIfInBounds_toArray, List.set_cons_zero] at hx3
                     have hck := refHdCheck_ok hx3 ⟨u0 + 1, v1, v2, v3, v4, v5, v6⟩
                     rw [HOK.out, show Hd.cells ⟨u0 + 1, v1, v2, v3, v4, v5, v6⟩ = #[.int .i64 (u0 + 1), .int .i64 v1, .int .i64 v2, .int .i64 v3, .int .i64 v4, .int .i64 v5, .int .i64 v6] from rfl] at hck
                     with_reducible refine hck.mono ?_
                     clear hck hx3
                     rintro e w4 ⟨rfl, hx4⟩
                     have hx5 := hx4.p1
                     rw [HDF.out] at hx5
                     have HX5 := Lib.hid hx5
                     clear hx4 hx5 HX2)
                  | (with_reducible refine wpList_load_hd ⟨v0, v1, v2, v3, v4, v5, v6⟩ (rangeAt_kept hr HX5.out.p3.below) ?_ ?_
                     exact ⟨rfl, _, rfl, rfl⟩
                     have HX6 := HX5
                     clear HX5)
                  | (go_at_call 56
                     have hc := save_ok (at_ := 0) HX6.out HOKF.out (by omega) (by omega) HRD.out ⟨v0, v1, v2, v3, v4, v5, v6⟩ HV64.out HWR.out HWL.out HBA.out
                     rw [HSV.out, show Hd.cells ⟨v0, v1, v2, v3, v4, v5, v6⟩ = #[.int .i64 v0, .int .i64 v1, .int .i64 v2, .int .i64 v3, .int .i64 v4, .int .i64 v5, .int .i64 v6] from rfl] at hc
                     dsimp only at hc
                     with_reducible refine hc.mono ?_
                     clear hc
                     rintro e' w7 ⟨rfl, hx7⟩
                     obtain ⟨p2, hp2⟩ : ∃ p, w7.heap.size = p := ⟨_, rfl⟩
                     have HX7 := Lib.hid (zx hx7)
                     rw [hp2] at HX7
                     clear hx7 HX6)
                  | (with_reducible refine wpList_store_hd (HX7.out) (⟨s0, s1, s2, s3, s4, s5, s6⟩) ?_ ?_; exact ⟨rfl, _, _, rfl, rfl, rfl⟩
                     intro w8 hx8
                     have hkc8 := PH.kept hx8.p4.below hkc
                     have HX8 := Lib.hid hx8
                     clear hx8 HX7)
                  | (go_at_call 30
                     refine (crash_ok (D := D2) (a := none) (c := 0) (zs := []) HX8.out.p1 HOK2.out (fun W' hW j u hj => by simp at hj) (by simp)).mono ?_
                     rintro e' w9 ⟨rfl, hx9⟩
                     obtain ⟨D3, hD3⟩ : ∃ D3, crashD D2 [] = D3 := ⟨_, rfl⟩
                     rw [hD3] at hx9
                     have ho := HOUT.out []
                     rw [hD3] at ho
                     have HO := Lib.hid ho
                     have HX9 := Lib.hid hx9
                     clear hx9 HX8 hD3 ho)
                  | (go_at_call 55
                     rcases HO.out with ⟨rfl, hS, J⟩ | ⟨rfl, J | J⟩
                     all_goals first
                       | (cases hS; have hc := find_ok HX9.out J.ok 0 (by omega) (by omega) J.rd; rw [J.find, HFH.out] at hc; dsimp only at hc; refine hc.mono ?_; clear hc; rintro e' w10 ⟨rfl, hx10⟩; obtain ⟨p3, hp3⟩ : ∃ p, w10.heap.size = p := ⟨_, rfl⟩; have HX10h := Lib.hid (zx hx10); rw [hp3] at HX10h; have HJ := Lib.hid J; clear hx10 HX9 J HO HOUT)
                       | (have hw : InvH D3 ⟨u0, u1, u2, u3, u4, u5, u6⟩ (n + 1) := J; clear hw; by_cases hu0 : u0 = 0 <;> first | (have hfw := HFW0.out hu0; have hng : ¬ u0 > 0 := (by omega); clear hu0; have hc := find_ok HX9.out J.ok 0 (by omega) (by omega) J.rd; rw [J.find, hfw] at hc; dsimp only at hc; refine hc.mono ?_; clear hc; rintro e' w10 ⟨rfl, hx10⟩; obtain ⟨p3, hp3⟩ : ∃ p, w10.heap.size = p := ⟨_, rfl⟩; have HX10w := Lib.hid (zx hx10); rw [hp3] at HX10w; have HJ := Lib.hid J; clear hx10 HX9 J HO HOUT) | (have hgp : u0 > 0 := (by have := HU.out; omega); have hub : (u0 == 0) = false := beq_eq_false_iff_ne.2 hu0; have hc := find_ok HX9.out J.ok 0 (by omega) (by omega) J.rd; rw [J.find, HFW1.out hu0] at hc; dsimp only at hc; refine hc.mono ?_; clear hc; rintro e' w10 ⟨rfl, hx10⟩; obtain ⟨p3, hp3⟩ : ∃ p, w10.heap.size = p := ⟨_, rfl⟩; have HX10w := Lib.hid (zx hx10); rw [hp3] at HX10w; have HJ := Lib.hid J; clear hx10 HX9 J HO HOUT))
                       | (skip; have hc := find_ok HX9.out J.ok 0 (by omega) (by omega) J.rd; rw [J.find, HFH.out] at hc; dsimp only at hc; refine hc.mono ?_; clear hc; rintro e' w10 ⟨rfl, hx10⟩; obtain ⟨p3, hp3⟩ : ∃ p, w10.heap.size = p := ⟨_, rfl⟩; have HX10h := Lib.hid (zx hx10); rw [hp3] at HX10h; have HJ := Lib.hid J; clear hx10 HX9 J HO HOUT))
                  | (with_reducible refine wpList_store_hd (HX10h.out) (⟨u0 + 1, v1, v2, v3, v4, v5, v6⟩) ?_ ?_; exact ⟨rfl, _, _, rfl, rfl, rfl⟩
                     intro w11 hx11
                     obtain ⟨m0, m1, m2, m3, m4, m5, m6⟩ := hd7 hx11
                     obtain ⟨n0, n1, n2, n3, n4, n5, n6⟩ := hd7 hx11.p2
                     obtain ⟨d0, d1, d2, d3, d4, d5, d6⟩ := hd7 hx11.p3
                     obtain ⟨o0, o1, o2, o3, o4, o5, o6⟩ := hd7 hx11.p4
                     have HX11 := Lib.hid hx11
                     clear hx11 HX10h)
                  | (with_reducible refine wpList_store_hd (HX10w.out) (⟨u0, u1, u2, u3, u4, u5, u6⟩) ?_ ?_; exact ⟨rfl, _, _, rfl, rfl, rfl⟩
                     intro w11 hx11
                     obtain ⟨m0, m1, m2, m3, m4, m5, m6⟩ := hd7 hx11
                     obtain ⟨n0, n1, n2, n3, n4, n5, n6⟩ := hd7 hx11.p2
                     obtain ⟨d0, d1, d2, d3, d4, d5, d6⟩ := hd7 hx11.p3
                     obtain ⟨o0, o1, o2, o3, o4, o5, o6⟩ := hd7 hx11.p4
                     have HX11 := Lib.hid hx11
                     clear hx11 HX10w)
                  | (with_reducible refine wpList_store_hd (HX11.out.p4) (⟨u0 + 1, v1, v2, v3, v4, v5, v6⟩) ?_ ?_; exact ⟨rfl, _, _, rfl, rfl, rfl⟩
                     intro w12 hx12
                     have HX12 := Lib.hid hx12.p1.tail.p1.p2.tail.p2.tail
                     clear hx12 HX11)
                  | (with_reducible refine wpList_store_hd (HX11.out.p4) (⟨u0, u1, u2, u3, u4, u5, u6⟩) ?_ ?_; exact ⟨rfl, _, _, rfl, rfl, rfl⟩
                     intro w12 hx12
                     have HX12 := Lib.hid hx12.p1.tail.p1.p2.tail.p2.tail
                     clear hx12 HX11))
                all_goals exact ⟨⟨k + 1, by omega, by go_num, _, _, n + 1, by omega, HJ, HX12.out⟩, by simp [intOf]; omega⟩
            · have hkki : ¬ (k : Int) < ks.length := by omega
              go_wp2_with (first
                | (with_reducible refine wpList_load_hd ⟨v0, v1, v2, v3, v4, v5, v6⟩ (rangeAt_kept hr HX.out.p2.below) ?_ ?_
                   exact ⟨rfl, _, rfl, rfl⟩
                   obtain ⟨p1, hp1⟩ : ∃ p, wr.heap.size = p := ⟨_, rfl⟩
                   have HX1 := Lib.hid (zx HX.out)
                   rw [hp1] at HX1
                   clear HX)
                | (with_reducible refine wpList_store_hd (HX1.out) (⟨v0, v1, v2, v3, v4, v5, v6⟩) ?_ ?_; exact ⟨rfl, _, _, rfl, rfl, rfl⟩
                   intro w2 hx2
                   obtain ⟨d0, d1, d2, d3, d4, d5, d6⟩ := hd7 hx2
                   have z0 := frozen_blk hx2.at 0
                   obtain ⟨c0, -⟩ := hd7 hx2.p2
                   have HX2 := Lib.hid hx2
                   clear hx2 HX1)
                | (go_at_call 49
                   have hx3 := HX2.out.setCell 0 (.int .i64 (u0 + 1))
                   rw [show Hd.cells ⟨v0, v1, v2, v3, v4, v5, v6⟩ = #[.int .i64 v0, .int .i64 v1, .int .i64 v2, .int .i64 v3, .int .i64 v4, .int .i64 v5, .int .i64 v6] from rfl] at hx3
                   simp only [List.setIfInBounds_toArray, List.set_cons_zero] at hx3
                   have hck := refHdCheck_ok hx3 ⟨u0 + 1, v1, v2, v3, v4, v5, v6⟩
                   rw [HOK.out, show Hd.cells ⟨u0 + 1, v1, v2, v3, v4, v5, v6⟩ = #[.int .i64 (u0 + 1), .int .i64 v1, .int .i64 v2, .int .i64 v3, .int .i64 v4, .int .i64 v5, .int .i64 v6] from rfl] at hck
                   with_reducible refine hck.mono ?_
                   clear hck hx3
                   rintro e w4 ⟨rfl, hx4⟩
                   have hx5 := hx4.p1
                   rw [HDF.out] at hx5
                   have HX5 := Lib.hid hx5
                   clear hx4 hx5 HX2)
                | (with_reducible refine wpList_load_hd ⟨v0, v1, v2, v3, v4, v5, v6⟩ (rangeAt_kept hr HX5.out.p3.below) ?_ ?_
                   exact ⟨rfl, _, rfl, rfl⟩
                   have HX6 := HX5
                   clear HX5)
                | (go_at_call 56
                   have hc := save_ok (at_ := 0) HX6.out HOKF.out (by omega) (by omega) HRD.out ⟨v0, v1, v2, v3, v4, v5, v6⟩ HV64.out HWR.out HWL.out HBA.out
                   rw [HSV.out, show Hd.cells ⟨v0, v1, v2, v3, v4, v5, v6⟩ = #[.int .i64 v0, .int .i64 v1, .int .i64 v2, .int .i64 v3, .int .i64 v4, .int .i64 v5, .int .i64 v6] from rfl] at hc
                   dsimp only at hc
                   with_reducible refine hc.mono ?_
                   clear hc
                   rintro e' w7 ⟨rfl, hx7⟩
                   obtain ⟨p2, hp2⟩ : ∃ p, w7.heap.size = p := ⟨_, rfl⟩
                   have HX7 := Lib.hid (zx hx7)
                   rw [hp2] at HX7
                   clear hx7 HX6)
                | (with_reducible refine wpList_store_hd (HX7.out) (⟨s0, s1, s2, s3, s4, s5, s6⟩) ?_ ?_; exact ⟨rfl, _, _, rfl, rfl, rfl⟩
                   intro w8 hx8
                   have HX8 := Lib.hid hx8
                   clear hx8 HX7)
                | (go_at_call 30
                   refine (crash_ok (D := D2) (a := none) (c := 0) (zs := []) HX8.out.p1 HOK2.out (fun W' hW j u hj => by simp at hj) (by simp)).mono ?_
                   rintro e' w9 ⟨rfl, hx9⟩
                   obtain ⟨D3, hD3⟩ : ∃ D3, crashD D2 [] = D3 := ⟨_, rfl⟩
                   rw [hD3] at hx9
                   have ho := HOUT.out []
                   rw [hD3] at ho
                   have HO := Lib.hid ho
                   have HX9 := Lib.hid hx9
                   clear hx9 HX8 hD3 ho)
                | (go_at_call 55
                   rcases HO.out with ⟨rfl, hS, J⟩ | ⟨rfl, J | J⟩
                   all_goals first
                     | (cases hS; have hc := find_ok HX9.out J.ok 0 (by omega) (by omega) J.rd; rw [J.find, HFH.out] at hc; dsimp only at hc; refine hc.mono ?_; clear hc; rintro e' w10 ⟨rfl, hx10⟩; obtain ⟨p3, hp3⟩ : ∃ p, w10.heap.size = p := ⟨_, rfl⟩; have HX10h := Lib.hid (zx hx10); rw [hp3] at HX10h; have HJ := Lib.hid J; clear hx10 HX9 J HO HOUT)
                     | (have hw : InvH D3 ⟨u0, u1, u2, u3, u4, u5, u6⟩ (n + 1) := J; clear hw; by_cases hu0 : u0 = 0 <;> first | (have hfw := HFW0.out hu0; have hng : ¬ u0 > 0 := (by omega); clear hu0; have hc := find_ok HX9.out J.ok 0 (by omega) (by omega) J.rd; rw [J.find, hfw] at hc; dsimp only at hc; refine hc.mono ?_; clear hc; rintro e' w10 ⟨rfl, hx10⟩; obtain ⟨p3, hp3⟩ : ∃ p, w10.heap.size = p := ⟨_, rfl⟩; have HX10w := Lib.hid (zx hx10); rw [hp3] at HX10w; have HJ := Lib.hid J; clear hx10 HX9 J HO HOUT) | (have hgp : u0 > 0 := (by have := HU.out; omega); have hub : (u0 == 0) = false := beq_eq_false_iff_ne.2 hu0; have hc := find_ok HX9.out J.ok 0 (by omega) (by omega) J.rd; rw [J.find, HFW1.out hu0] at hc; dsimp only at hc; refine hc.mono ?_; clear hc; rintro e' w10 ⟨rfl, hx10⟩; obtain ⟨p3, hp3⟩ : ∃ p, w10.heap.size = p := ⟨_, rfl⟩; have HX10w := Lib.hid (zx hx10); rw [hp3] at HX10w; have HJ := Lib.hid J; clear hx10 HX9 J HO HOUT))
                     | (skip; have hc := find_ok HX9.out J.ok 0 (by omega) (by omega) J.rd; rw [J.find, HFH.out] at hc; dsimp only at hc; refine hc.mono ?_; clear hc; rintro e' w10 ⟨rfl, hx10⟩; obtain ⟨p3, hp3⟩ : ∃ p, w10.heap.size = p := ⟨_, rfl⟩; have HX10h := Lib.hid (zx hx10); rw [hp3] at HX10h; have HJ := Lib.hid J; clear hx10 HX9 J HO HOUT))
                | (with_reducible refine wpList_store_hd (HX10h.out) (⟨u0 + 1, v1, v2, v3, v4, v5, v6⟩) ?_ ?_; exact ⟨rfl, _, _, rfl, rfl, rfl⟩
                   intro w11 hx11
                   obtain ⟨m0, m1, m2, m3, m4, m5, m6⟩ := hd7 hx11
                   obtain ⟨n0, n1, n2, n3, n4, n5, n6⟩ := hd7 hx11.p2
                   obtain ⟨d0, d1, d2, d3, d4, d5, d6⟩ := hd7 hx11.p3
                   obtain ⟨o0, o1, o2, o3, o4, o5, o6⟩ := hd7 hx11.p4
                   have HX11 := Lib.hid hx11
                   clear hx11 HX10h)
                | (with_reducible refine wpList_store_hd (HX10w.out) (⟨u0, u1, u2, u3, u4, u5, u6⟩) ?_ ?_; exact ⟨rfl, _, _, rfl, rfl, rfl⟩
                   intro w11 hx11
                   obtain ⟨m0, m1, m2, m3, m4, m5, m6⟩ := hd7 hx11
                   obtain ⟨n0, n1, n2, n3, n4, n5, n6⟩ := hd7 hx11.p2
                   obtain ⟨d0, d1, d2, d3, d4, d5, d6⟩ := hd7 hx11.p3
                   obtain ⟨o0, o1, o2, o3, o4, o5, o6⟩ := hd7 hx11.p4
                   have HX11 := Lib.hid hx11
                   clear hx11 HX10w)
                | (with_reducible refine wpList_store_hd (HX11.out.p4) (⟨u0 + 1, v1, v2, v3, v4, v5, v6⟩) ?_ ?_; exact ⟨rfl, _, _, rfl, rfl, rfl⟩
                   intro w12 hx12
                   have HX12 := Lib.hid hx12.p1.tail.p1.p2.tail.p2.tail
                   clear hx12 HX11)
                | (with_reducible refine wpList_store_hd (HX11.out.p4) (⟨u0, u1, u2, u3, u4, u5, u6⟩) ?_ ?_; exact ⟨rfl, _, _, rfl, rfl, rfl⟩
                   intro w12 hx12
                   have HX12 := Lib.hid hx12.p1.tail.p1.p2.tail.p2.tail
                   clear hx12 HX11))
              all_goals exact ⟨⟨k + 1, by omega, by go_num, _, _, n + 1, by omega, HJ, HX12.out⟩, by simp [intOf]; omega⟩
      · obtain rfl : k = l.length := by omega
        have HX := Lib.hid hx
        clear hx
        go_wp2_with (go_at_call 51; refine (headKnown_ok _).mono ?_; rintro e w2 ⟨rfl, hb2⟩; have HB2 := Lib.hid (HX.out.ofBelow hb2); clear hb2)
        go_ret
        exact ⟨rfl, HB2.out.tail.tail.below⟩
end Go.Proofs.Ytmkpglabiikdeaa

