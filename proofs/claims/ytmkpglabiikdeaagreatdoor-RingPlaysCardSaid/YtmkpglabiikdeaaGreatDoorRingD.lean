/-
  posthouse/ring: Open, walked.
-/
import Derived.Test.YtmkpglabiikdeaaGreatDoorRingC
import Derived.Test.YtmkpglabiikdeaaGreatDoorDiskI
namespace Go.Proofs.YtmkpglabiikdeaaGreatDoor
open Go.RowKit PH
attribute [local go_sem] Oper.semAt_some
attribute [local irreducible] fld pcB pcOfB left

theorem wpListIn_appS {F : Fence} {m : Nat} {E w : World} {L : List HP} {v : Value} {n : Nat} {cs : List Value} {ops : Array Oper} {rest : List Oper} {o : Oper} {ac : Act} {Q : Exit → Act → World → Prop} (hgd : o.guard = none) (s p : Operand)
    (ho : o.op = .call { callee := .builtin .append, args := #[s, p], argTypes := #[43, 43] })
    (x : Sat E w (row 9 1 v n cs :: L)) (sv : ByteArray) (hs : ac.eval s = v) (hp : ac.eval p = .slice (some ⟨w.heap.size, 0, none⟩) 1 1) (hn : n ≤ 1000000)
    (h : ∀ v' w', Sat E w' (row 9 1 v' (n + 1) (cs ++ [.string sv]) :: L) → wpListIn F m Tryz.prog ops Q rest (ac.put o.dst v') w') :
    wpListIn F m Tryz.prog ops Q (o :: rest) ac (w.alloc (.cells #[.string sv] 9)) := by
  obtain ⟨i, hi, hz, hsz, hby⟩ := info_parts (P := Tryz.prog) (e := 9) (z := .string ByteArray.empty) (size := 1) (bytes := 16) (by kernel_rfl)
  obtain ⟨v', w', hr, h2, h3⟩ := (x.alloc (.cells #[.string sv] 9)).tail.append (P := Tryz.prog) 43 o.type i _ 16 Tryz.underlying43 hi hz hsz hby rfl ⟨w.heap.size, 0, none⟩ 1 1 [.string sv] rfl (cells_new w [.string sv] 9) (by simp [Value.oneCell']) (by unfold maxLen; omega) (by omega)
  refine wpListIn_plain hgd fun K hK' => ?_
  unfold Oper.wpIn
  refine ⟨?_, ?_⟩
  · simp [Oper.about, ho, resolve, Target.leads, Sem.run_pure]
  · rw [Oper.semAt_plain F _ _ (by rw [ho]; intro c hc'; cases hc')]
    unfold execOp
    simp only [ho, resolve, invoke, builtin, Sem.run_bind, Sem.run_pure, Result.andThen_ok, List.map_toArray, List.map_cons, List.map_nil, hs, hp, hr]
    exact hK' _ _ (h v' w' h2)
theorem rgAfter_nil (r : Rg) : rgAfter r [] = r := by
  cases r; simp [rgAfter]
theorem rgAfter_snoc (r : Rg) (ys : List (List Pc)) (x : List Pc) : rgAfter r (ys ++ [x]) = { rgAfter r ys with used := (rgAfter r ys).used + x.length, seq := (rgAfter r ys).seq + 1 } := by
  unfold rgAfter
  simp only [List.map_append, List.map_cons, List.map_nil, List.sum_append, List.sum_cons, List.sum_nil, List.length_append, List.length_cons, List.length_nil, Rg.mk.injEq, true_and, and_true]
  exact ⟨by omega, by push_cast; omega⟩
/-- What Open has in its hands between two rounds: the box of 'r', the box of 'out', the texts so far. -/
def openI (q18 q19 q : Nat) (ys : List (List Pc)) : HP := ex fun v : Value => seps [pt q18 (.cells #[.pointer (some ⟨q, 0, none⟩)] 42), pt q19 (.cells #[v] 43), row 9 1 v ys.length (sects (ys.map joined))]

/-- A journal that is opened. -/
structure OkOpen (D : Dk) (fr cn po : Nat) (sq si ep : Int) : Prop where
  c0 : 0 < cn
  c1 : fr + cn ≤ D.kept.length
  c2 : D.kept.length ≤ 100000
  p : po < cn
  s0 : 1 ≤ sq
  s1 : sq ≤ 9223372036854775807
  e0 : 1 ≤ ep
  e1 : ep ≤ 4294967295
  i0 : 1 ≤ si
  i1 : si ≤ ep
def openT (D : Dk) (fr cn po : Nat) (sq si ep : Int) : List (List Pc) := stands (pcAt D ⟨fr, cn, 0, 0, sq, ep⟩ po) cn ep cn 0 si sq
def openR (D : Dk) (fr cn po : Nat) (sq si ep : Int) : Rg := ⟨fr, cn, (po + ((openT D fr cn po sq si ep).map List.length).sum) % cn, ((openT D fr cn po sq si ep).map List.length).sum, sq + (openT D fr cn po sq si ep).length, ep⟩

theorem sat_p8 {E w : World} {A B C D F G H I J : HP} {L : List HP} (x : Sat E w (A :: B :: C :: D :: F :: G :: H :: I :: J :: L)) : Sat E w (J :: A :: B :: C :: D :: F :: G :: H :: I :: L) := sat_p7 (x.mono (Sat.under (Sat.under (Sat.under (Sat.under (Sat.under (Sat.under (Sat.under swap0))))))))
theorem open_perm {E w : World} {A6 A5 A4 A3 A2 V A1 Q D : HP} {L : List HP} (x : Sat E w (A6 :: A5 :: A4 :: A3 :: A2 :: V :: A1 :: Q :: D :: L)) : Sat E w (A1 :: A2 :: V :: seps [Q, D] :: A6 :: A3 :: A4 :: A5 :: L) :=
  ((sat_p8 (sat_p8 x.p1.p2.p3.p3.p5.p5.p6)).pack [_, _]).p3.p3.p3
theorem open_pack {E w : World} {I S B6 B3 B4 B5 : HP} {L : List HP} (x : Sat E w (I :: S :: B6 :: B3 :: B4 :: B5 :: L)) : Sat E w (seps [S, I] :: seps [B6, B3, B4, B5] :: L) :=
  ((x.p1.pack [_, _]).p4.p4.p4.p4.pack [_, _, _, _]).p1
set_option maxRecDepth 100000 in
set_option maxHeartbeats 3200000 in
theorem open_ok {E W : World} {L : List HP} {b : Nat} {D : Dk} (x : Sat E W (isDisk b D :: L)) (ok : OkD D) (ha : aliveE D = 0) (hR : ∀ i, (readV D i).size ≤ 9223372036854775807) {fr cn po : Nat} {sq si ep : Int} (ho : OkOpen D fr cn po sq si ep) (hov : sq + (openT D fr cn po sq si ep).length ≤ 9223372036854775807) :
    Calls Tryz.prog 18 #[.pointer (some ⟨b, 0, none⟩), .int .i64 fr, .int .i64 cn, .int .i64 po, .int .i64 sq, .int .i64 si, .int .i64 ep] W fun e w' =>
      ∃ q v, e = .returned (.tuple #[.pointer (some ⟨q, 0, none⟩), v, .int .i64 0]) ∧ Sat E w' (isRing q b (openR D fr cn po sq si ep) :: isDisk b D :: row 9 1 v (openT D fr cn po sq si ep).length (sects ((openT D fr cn po sq si ep).map joined)) :: L) := by
  have hsz := fun {W : World} {M : List HP} (y : Sat E W (isDisk b D :: M)) => size_ok y
  have hdd := fun {W : World} {M : List HP} (y : Sat E W (isDisk b D :: M)) => dead_ok y
  have hm : madeB D = true := by
    unfold aliveE at ha
    split at ha
    · assumption
    · cases ha
  have hd : D.dead = false := by
    unfold aliveE at ha
    rw [hm] at ha
    cases h : D.dead with
    | false => rfl
    | true => rw [h] at ha; cases ha
  have hdd2 : ∀ (W : World) (M : List HP), Sat E W (isDisk b D :: M) → Calls Tryz.prog 57 #[.pointer (some ⟨b, 0, none⟩)] W fun e w' => e = .returned (.bool false) ∧ w' = W := fun W M y => by
    have := dead_ok y
    rw [hd, Bool.and_false] at this
    exact this
  have hsz2 : ∀ (W : World) (M : List HP), Sat E W (isDisk b D :: M) → Calls Tryz.prog 56 #[.pointer (some ⟨b, 0, none⟩)] W fun e w' => e = .returned (.int .i64 D.kept.length) ∧ w' = W := fun W M y => size_ok y
  have hseq := fun q q1 q2 q3 q4 => stands1_seq (q := q) (b := b) (q1 := q1) (q2 := q2) (q3 := q3) (q4 := q4) (r := ⟨fr, cn, 0, 0, sq, ep⟩) ok ha ho.c0 ho.c1 ho.c2 hR po (by have := ho.p; have := ho.c1; have := ho.c2; omega) si sq (by have := ho.s0; omega) (tot := openT D fr cn po sq si ep) hov rfl
  have hsl := stands_len (f := pcAt D ⟨fr, cn, 0, 0, sq, ep⟩ po) (C := cn) (E := ep) (k := cn) (b := 0) (least := si) (seq := sq) (by omega)
  have hopr : openR D fr cn po sq si ep = ⟨fr, cn, (po + ((openT D fr cn po sq si ep).map List.length).sum) % cn, ((openT D fr cn po sq si ep).map List.length).sum, sq + (openT D fr cn po sq si ep).length, ep⟩ := rfl
  change 0 + ((openT D fr cn po sq si ep).map List.length).sum ≤ cn ∧ (openT D fr cn po sq si ep).length ≤ ((openT D fr cn po sq si ep).map List.length).sum at hsl
  obtain ⟨T, hT⟩ : ∃ T, openT D fr cn po sq si ep = T := ⟨_, rfl⟩
  obtain ⟨RR, hRR⟩ : ∃ R, openR D fr cn po sq si ep = R := ⟨_, rfl⟩
  rw [hRR, hT] at hopr
  rw [hRR, hT]
  rw [hT] at hseq hsl hov
  obtain ⟨K, hK⟩ : ∃ K, D.kept.length = K := ⟨_, rfl⟩
  rw [hK] at hsz2
  have c0 := ho.c0
  have c1 := ho.c1
  have c2 := ho.c2
  have p1 := ho.p
  have s0 := ho.s0
  have s1 := ho.s1
  have e0 := ho.e0
  have e1 := ho.e1
  have i0 := ho.i0
  have i1 := ho.i1
  rw [hK] at c1 c2
  obtain ⟨q, hq⟩ : ∃ q, W.heap.size = q := ⟨_, rfl⟩
  have HX := Lib.hid x
  have HD := Lib.hid hdd2
  have HZ := Lib.hid hsz2
  have HSEQ := Lib.hid hseq
  have HOPR := Lib.hid hopr
  have HSL := Lib.hid hsl
  clear x hsz hdd hm hd hdd2 hsz2 hseq hsl hopr hT hRR hK ha ok ho
  refine (callsIn_wide (n := 3)).1 ?_
  refine callsIn_of_wp_marks Tryz.func18 rfl trivial ?_ rfl
  simp only [Tryz.ntmps18, List.size_toArray, List.length_cons, List.length_nil, Nat.reduceAdd, Nat.reduceSub, Array.replicate_succ, Array.replicate_zero, List.push_toArray, List.append_toArray, List.nil_append, List.cons_append]
  have k0 : ¬ K = 0 := by omega
  have k1 : ¬ (fr : Int) < 0 := by omega
  have k2 : ¬ (cn : Int) < 1 := by omega
  have k3 : ¬ (K : Int) < cn := by omega
  have k4 : ¬ (K : Int) - cn < fr := by omega
  have k5 : ¬ (po : Int) < 0 := by omega
  have k6 : ¬ (cn : Int) ≤ po := by omega
  have k7 : ¬ sq < 1 := by omega
  have k8 : ¬ ep < 1 := by omega
  have k9 : ¬ 4294967295 < ep := by omega
  have k10 : ¬ si < 1 := by omega
  have k11 : ¬ ep < si := by omega
  gi_wp2_with (first
    | (refine ⟨trivial, ?_⟩; gi_at_call 56; refine (callsIn_wide.2 (HZ.out _ _ HX.out)).mono ?_; rintro e w1 ⟨rfl, hw⟩; subst w1)
    | (refine ⟨trivial, ?_⟩; gi_at_call 57; refine (callsIn_wide.2 (HD.out _ _ HX.out)).mono ?_; rintro e w1 ⟨rfl, hw⟩; subst w1)
    | (refine ⟨trivial, ?_⟩; gi_at_call 58; refine (callsIn_wide.2 (ringStands_ok _ _ _ _)).mono ?_; rintro e w2 ⟨rfl, hw2⟩; subst w2))
  have hx2 := (((((((HX.out.alloc (.cells #[.pointer (some ⟨b, 0, none⟩), .int .i64 fr, .int .i64 cn, .int .i64 0, .int .i64 0, .int .i64 sq, .int .i64 ep] 102)).alloc (.cells #[.pointer (some ⟨q, 0, none⟩)] 42)).rowNil 9 1).alloc (.cells #[.slice none 0 0] 43)).alloc (.cells #[.pointer (some ⟨q, 0, none⟩)] 42)).alloc (.cells #[.int .i64 po] 3)).alloc (.cells #[.int .i64 sq] 3)).alloc (.cells #[.int .i64 si] 3)
  simp only [World.size_alloc] at hx2
  rw [hq] at hx2
  have HX3 := Lib.hid hx2
  clear hx2 k0 k1 k2 k3 k4 k5 k6 k7 k8 k9 k10 k11
  refine wpIn_rangeP (gf := 89) (lb := #[.pointer (some ⟨q + 1 + 1 + 1 + 1 + 1 + 1, 0, none⟩), .pointer (some ⟨q + 1 + 1 + 1, 0, none⟩), .pointer (some ⟨q + 1 + 1 + 1 + 1, 0, none⟩), .pointer (some ⟨q + 1 + 1 + 1 + 1 + 1, 0, none⟩)]) (E := E) (L := L) rfl (enters_of Tryz.func89 (by kernel_rfl) rfl)
    (HSEQ.out q (q + 1 + 1 + 1 + 1 + 1 + 1) (q + 1 + 1 + 1) (q + 1 + 1 + 1 + 1) (q + 1 + 1 + 1 + 1 + 1)) (fun _ => rfl) (openI (q + 1) (q + 1 + 1) q) (fun _ _ => fact False)
    (fun t x => (((t.setIfInBounds 91 (.string (joined x))).setIfInBounds 92 (.int .i64 x.length)).setIfInBounds 20 (.string (joined x))).setIfInBounds 21 (.int .i64 x.length)) ?h0 ?assign ?body ?done ?stop
  case h0 =>
    have h1 := (open_perm HX3.out).pack [_, _, _]
    have h2 : Sat E _ (openI (q + 1) (q + 1 + 1) q [] :: _) := Sat.mkEx (A := fun v : Value => seps [pt (q + 1) (.cells #[.pointer (some ⟨q, 0, none⟩)] 42), pt (q + 1 + 1) (.cells #[v] 43), row 9 1 v ([] : List (List Pc)).length (sects (([] : List (List Pc)).map joined))]) (.slice none 0 0) h1
    have e0 : shR q b ⟨fr, cn, 0, 0, sq, ep⟩ D [] = seps [isRing q b ⟨fr, cn, 0, 0, sq, ep⟩, isDisk b D] := by unfold shR; rw [rgAfter_nil]
    rw [e0]
    exact open_pack h2
  case assign =>
    intro l m pre x W L K hx hK
    simp only [List.setIfInBounds_toArray, List.set_cons_zero, List.set_cons_succ] at hK
    unfold recV
    gi_wp2
    first | exact hx | exact hK _ hx
  case body =>
    intro l m pre x W L hok hx
    have hx1 : Sat E W (seps [isRing q b (rgAfter ⟨fr, cn, 0, 0, sq, ep⟩ pre), isDisk b D] :: openI (q + 1) (q + 1 + 1) q pre :: L) := hx.flat
    obtain ⟨v, hx2⟩ := hx1.flat.p2.ex
    have hx3 : Sat E W (pt (q + 1) (.cells #[.pointer (some ⟨q, 0, none⟩)] 42) :: pt (q + 1 + 1) (.cells #[v] 43) :: row 9 1 v pre.length (sects (pre.map joined)) :: isRing q b (rgAfter ⟨fr, cn, 0, 0, sq, ep⟩ pre) :: isDisk b D :: L) := hx2.flat
    have hlp : pre.length ≤ 100000 ∧ ((pre.map List.length).sum + x.length ≤ 100000) := by
      obtain ⟨rest, hrest⟩ := hok
      have h1 := HSL.out
      rw [← hrest] at h1
      simp only [List.map_append, List.map_cons, List.sum_append, List.sum_cons, List.length_append, List.length_cons] at h1
      omega
    have hsn := rgAfter_snoc ⟨fr, cn, 0, 0, sq, ep⟩ pre x
    obtain ⟨U, hU⟩ : ∃ U, 0 + (pre.map List.length).sum = U := ⟨_, rfl⟩
    obtain ⟨Sq, hSq⟩ : ∃ S : Int, sq + (pre.length : Int) = S := ⟨_, rfl⟩
    have hrg : rgAfter ⟨fr, cn, 0, 0, sq, ep⟩ pre = ⟨fr, cn, 0, U, Sq, ep⟩ := by rw [← hU, ← hSq]; rfl
    rw [hrg] at hx3 hsn
    obtain ⟨N, hN⟩ : ∃ N, x.length = N := ⟨_, rfl⟩
    obtain ⟨J, hJ⟩ : ∃ N, joined x = N := ⟨_, rfl⟩
    rw [hN] at hlp hsn
    have hub : U + N ≤ 100000 := by omega
    have hsb : 0 ≤ Sq ∧ Sq + 1 ≤ 9223372036854775807 := by
      obtain ⟨rest, hrest⟩ := hok
      have h1 := congrArg List.length hrest
      rw [List.length_append, List.length_cons] at h1
      omega
    have g19 : W.cell? ⟨q + 1 + 1, 0, none⟩ = some v := cell_one hx3.p1
    have HX4 := Lib.hid hx3
    have HSN := Lib.hid hsn
    have HJ := Lib.hid hJ
    have HN := Lib.hid hN
    have hpl := hlp.1
    simp only [List.setIfInBounds_toArray, List.set_cons_zero, List.set_cons_succ]
    rw [hJ, hN]
    clear hx hx1 hx2 hx3 hsn hU hSq hrg hok hJ hN hlp
    gi_wp2_with (refine wpListIn_appS rfl _ _ rfl HX4.out.p2 J rfl rfl (by omega) ?_; intro v' w3 hx5; obtain ⟨g', cap', rfl, -⟩ := hx5.rowSees (by omega); have g18 : w3.cell? ⟨q + 1, 0, none⟩ = some (.pointer (some ⟨q, 0, none⟩)) := cell_one hx5.p1; have g19b : w3.cell? ⟨q + 1 + 1, 0, none⟩ = some v := cell_one hx5.p2; have f19 := frozen_blk hx5.p2.at 0; obtain ⟨-, -, -, -, r4, r5, -⟩ := ring7 hx5.p3; dsimp only at r4 r5; have f4 := frozen_blk hx5.p3.at 4; have f5 := frozen_blk hx5.p3.at 5; have HX5 := Lib.hid hx5; clear hx5 g19)
    show Sat _ _ _
    have s1 := (HX5.out.p2.setCell 0 (.slice (some ⟨g', 0, none⟩) (pre.length + 1) cap')).p3.setCell 4 (.int .i64 ((U : Int) + (N : Int)))
    have s2 := s1.setCell 5 (.int .i64 (Sq + 1))
    have s3 := s2.head (A' := isRing q b (rgAfter ⟨fr, cn, 0, 0, sq, ep⟩ (pre ++ [x]))) (fun k hk => by rw [HSN.out]; exact hk)
    have s4 := (s3.p3.p1.p4.p1.pack [_, _]).p3.p3.p3.pack [_, _, _]
    have e1 : sects (pre.map joined) ++ [Value.string J] = sects ((pre ++ [x]).map joined) := by rw [← HJ.out]; simp [sects]
    have e2 : (pre ++ [x]).length = pre.length + 1 := by simp
    rw [e1] at s4
    refine Sat.pack [shR q b ⟨fr, cn, 0, 0, sq, ep⟩ D (pre ++ [x]), openI (q + 1) (q + 1 + 1) q (pre ++ [x])] ?_
    have s5 : Sat E _ (openI (q + 1) (q + 1 + 1) q (pre ++ [x]) :: shR q b ⟨fr, cn, 0, 0, sq, ep⟩ D (pre ++ [x]) :: L) := Sat.mkEx (A := fun v : Value => seps [pt (q + 1) (.cells #[.pointer (some ⟨q, 0, none⟩)] 42), pt (q + 1 + 1) (.cells #[v] 43), row 9 1 v (pre ++ [x]).length (sects ((pre ++ [x]).map joined))]) (.slice (some ⟨g', 0, none⟩) (pre.length + 1) cap') (by rw [e2]; exact s4)
    exact s5.p1
  case done =>
    rintro D2 xs W' hxs hx
    subst hxs
    have hx1 : Sat E W' (seps [isRing q b (rgAfter ⟨fr, cn, 0, 0, sq, ep⟩ xs), isDisk b D] :: openI (q + 1) (q + 1 + 1) q xs :: fact True :: pt D2 (.deferred (some [])) :: L) := hx.flat
    obtain ⟨v, hx2⟩ := hx1.flat.p2.ex
    have hx3 : Sat E W' (pt (q + 1) (.cells #[.pointer (some ⟨q, 0, none⟩)] 42) :: pt (q + 1 + 1) (.cells #[v] 43) :: row 9 1 v xs.length (sects (xs.map joined)) :: isRing q b (rgAfter ⟨fr, cn, 0, 0, sq, ep⟩ xs) :: isDisk b D :: fact True :: pt D2 (.deferred (some [])) :: L) := hx2.flat
    have hsl := HSL.out
    obtain ⟨U, hU⟩ : ∃ U, (xs.map List.length).sum = U := ⟨_, rfl⟩
    obtain ⟨Sq, hSq⟩ : ∃ S : Int, sq + (xs.length : Int) = S := ⟨_, rfl⟩
    have hrg : rgAfter ⟨fr, cn, 0, 0, sq, ep⟩ xs = ⟨fr, cn, 0, U, Sq, ep⟩ := by rw [← hSq, ← hU]; unfold rgAfter; simp
    have hopr := HOPR.out
    rw [hU] at hopr hsl
    rw [hSq] at hopr
    rw [hrg] at hx3
    have hy := hx3.drew
    have g18 : W'.drew.cell? ⟨q + 1, 0, none⟩ = some (.pointer (some ⟨q, 0, none⟩)) := cell_one hy
    have g19 : W'.drew.cell? ⟨q + 1 + 1, 0, none⟩ = some v := cell_one hy.p1
    obtain ⟨-, -, -, r3, r4, -, -⟩ := ring7 hy.p3
    dsimp only at r3 r4
    have f3 := frozen_blk hy.p3.at 3
    obtain ⟨S, hS⟩ : ∃ S : Int, (po : Int) + (U : Int) = S := ⟨_, rfl⟩
    have hne : ¬ (cn = 0) := by omega
    have hmod : S.tmod (cn : Int) = (((po + U) % cn : Nat) : Int) := by rw [← hS, Int.tmod_eq_emod_of_nonneg (by omega), Int.natCast_emod]; rfl
    obtain ⟨M, hM⟩ : ∃ M, (po + U) % cn = M := ⟨_, rfl⟩
    rw [hM] at hopr hmod
    have hfin0 := (hy.p3.setCell 3 (.int .i64 (M : Int))).drew
    have HFIN : Hid (Sat E _ (isRing q b RR :: _)) := Lib.hid (by rw [hopr]; exact hfin0)
    have hfr : fr ≤ 100000 := by omega
    have hpo : po ≤ 100000 := by omega
    have hU0 : U ≤ 100000 := by omega
    have h18 : (W'.drew.setCell ⟨q, 3, none⟩ (.int .i64 M)).drew.cell? ⟨q + 1, 0, none⟩ = some (.pointer (some ⟨q, 0, none⟩)) := cell_one hfin0.p1
    have h19 : (W'.drew.setCell ⟨q, 3, none⟩ (.int .i64 M)).drew.cell? ⟨q + 1 + 1, 0, none⟩ = some v := cell_one hfin0.p2
    have HH := Lib.hid (And.intro h18 h19)
    clear hx hx1 hx2 hx3 hrg hopr hsl hU hSq hM hy hfin0 h18 h19
    gi_wp2
    refine wpIn_region_planN [(0, true), (1, true), (2, true), (3, true), (4, true), (5, true), (6, true), (7, true), (8, true), (9, true), (10, true), (11, false)]
      [(12, fun w1 => w1.cell? ⟨q + 1, 0, none⟩ = some (.pointer (some ⟨q, 0, none⟩))), (11, fun w1 => w1.cell? ⟨q, 4, none⟩ = some (.int .i64 U) ∧ w1.cell? ⟨q, 3, none⟩ = some (.int .i64 0))] (by kernel_rfl) (by kernel_rfl) (by kernel_rfl) ?_ ?_
    · exact ⟨g18, ⟨r4, r3⟩, trivial⟩
    simp only [planOps, List.getElem?_cons_zero, List.getElem?_cons_succ]
    iterate 11 (first | (apply plan_skip rfl; try simp only [Act.put, List.setIfInBounds_toArray, List.set_cons_zero, List.set_cons_succ]) | ((apply plan_pure rfl; (intro w1; go_simp; try go_bits); with_reducible rfl); try simp only [Act.put, List.setIfInBounds_toArray, List.set_cons_zero, List.set_cons_succ]) | ((refine' plan_load 0 rfl (by kernel_rfl) rfl ?_ ?_; rotate_left; (intro w1 hw1; go_simp; with_reducible rfl)); try simp only [Act.put, List.setIfInBounds_toArray, List.set_cons_zero, List.set_cons_succ]) | ((refine' plan_load 1 rfl (by kernel_rfl) rfl ?_ ?_; rotate_left; (intro w1 hw1; go_simp; with_reducible rfl)); try simp only [Act.put, List.setIfInBounds_toArray, List.set_cons_zero, List.set_cons_succ]))
    refine plan_loud rfl (fun K hK => ?_); go_simp
    refine hK _ _ ⟨HH.out.1, trivial⟩ (plan_nil ?_)
    clear hK K
    simp only [onlyN]
    clear g18 g19 r3 r4 f3
    gi_wp2
    refine wpIn_region_planN [(0, true), (1, true), (2, true), (3, true), (4, true)]
      [(5, fun w1 => w1.cell? ⟨q + 1, 0, none⟩ = some (.pointer (some ⟨q, 0, none⟩)) ∧ w1.cell? ⟨q + 1 + 1, 0, none⟩ = some v)] (by kernel_rfl) (by kernel_rfl) (by kernel_rfl) ?_ ?_
    · exact ⟨HH.out, trivial⟩
    simp only [planOps, List.getElem?_cons_zero, List.getElem?_cons_succ]
    iterate 5 (first | ((apply plan_pure rfl; (intro w1; go_simp; try go_bits); with_reducible rfl); try simp only [Act.put, List.setIfInBounds_toArray, List.set_cons_zero, List.set_cons_succ]) | ((refine' plan_load 0 rfl (by kernel_rfl) rfl ?_ ?_; rotate_left; (intro w1 hw1; go_simp; with_reducible rfl)); try simp only [Act.put, List.setIfInBounds_toArray, List.set_cons_zero, List.set_cons_succ]))
    refine plan_nil ?_
    simp only [onlyN]
    gi_wp2
    refine post_mark (HFIN.out.p6) (results_tmp3 rfl _ _ _) ?_
    rintro W2 hW2 hx2
    exact ⟨q, v, rfl, hx2.p1.tail.p1.tail.p3.tail.p2.p1⟩
  case stop =>
    rintro D c pre W' - hx
    exact hx.fact.1.elim

set_option maxRecDepth 100000 in
theorem open_nil {W : World} (fr cn po sq si ep : Int) : Calls Tryz.prog 18 #[.pointer none, .int .i64 fr, .int .i64 cn, .int .i64 po, .int .i64 sq, .int .i64 si, .int .i64 ep] W fun e w' => e = .returned (.tuple #[.pointer none, .slice none 0 0, .int .i64 1]) ∧ w' = W := by
  go_enter Tryz.func18, Tryz.ntmps18
  go_wp2_with (go_at_call 56; refine size_nil.mono ?_; rintro e w2 ⟨rfl, rfl⟩)
  refine bodyPost_ret (results_tmp3 rfl _ _ _) rfl ?_
  exact ⟨rfl, rfl⟩
set_option maxRecDepth 100000 in
set_option maxHeartbeats 1600000 in
theorem open_down {E W : World} {L : List HP} {b : Nat} {D : Dk} (x : Sat E W (isDisk b D :: L)) (hk : 0 < D.kept.length) (hd : D.dead = true) (fr cn po sq si ep : Int) : Calls Tryz.prog 18 #[.pointer (some ⟨b, 0, none⟩), .int .i64 fr, .int .i64 cn, .int .i64 po, .int .i64 sq, .int .i64 si, .int .i64 ep] W fun e w' => e = .returned (.tuple #[.pointer none, .slice none 0 0, .int .i64 30]) ∧ w' = W := by
  have h1 : (madeB D && D.dead) = true := by rw [hd]; unfold madeB; simp [hk]
  have h2 : ¬ D.kept.length = 0 := by omega
  obtain ⟨K, hK⟩ : ∃ K, D.kept.length = K := ⟨_, rfl⟩
  have HK := Lib.hid hK
  rw [hK] at h2
  have HX := Lib.hid x
  have H1 := Lib.hid h1
  clear x h1 hK
  go_enter Tryz.func18, Tryz.ntmps18
  go_wp2_with (first
    | (go_at_call 56; refine (size_ok HX.out).mono ?_; rintro e w2 ⟨rfl, hw⟩; subst w2; rw [HK.out])
    | (go_at_call 57; refine (dead_ok HX.out).mono ?_; rintro e w2 ⟨rfl, hw⟩; subst w2; rw [H1.out]))
  refine bodyPost_ret (results_tmp3 rfl _ _ _) rfl ?_
  exact ⟨rfl, rfl⟩
end Go.Proofs.YtmkpglabiikdeaaGreatDoor
