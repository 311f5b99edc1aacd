/-
  The law PieceMixed, walked.
-/
import Derived.Test.YtmkpglabiikdeaaMixedLaw
import Derived.Test.YtmkpglabiikdeaaOpenPieces
namespace PH
open Go Go.RowKit
/-- A store into a row. -/
theorem Sat.rowSet {E w : World} {L : List HP} {e : TypeId} {sz g n cap : Nat} {cs : List Value} (x : Sat E w (row e sz (.slice (some ⟨g, 0, none⟩) n cap) n cs :: L)) {i : Nat} (hi : i < n * sz) (u : Value) :
    Sat E (w.setCell ⟨g, i, none⟩ u) (row e sz (.slice (some ⟨g, 0, none⟩) n cap) n (cs.set i u) :: L) := by
  obtain ⟨hl, hx⟩ := x.rowCases
  rcases hx with ⟨e, _, _, _⟩ | ⟨g', cap', cur, e, h1, h2, h3, h4, y⟩
  · cases e
  · cases e
    refine (y.setCell i u).rowMk h1 h2 (by simpa using h3) ?_
    rw [Array.toList_setIfInBounds, ← h4, List.take_set]
/-- An empty literal. -/
theorem Sat.rowEmpty {E w : World} {L : List HP} (e : TypeId) (sz : Nat) (x : Sat E w L) {g : Nat} (hg : w.heap.size = g) : Sat E (w.alloc (.cells #[] e)) (row e sz (.slice (some ⟨g, 0, none⟩) 0 0) 0 [] :: L) :=
  hg ▸ (x.alloc (.cells #[] e)).rowMk (Nat.le_refl _) (by unfold maxLen; omega) (by simp) (by simp)
/-- What an owned row shows: besides, that it may be written. -/
theorem Sat.rowFree {E w : World} {L : List HP} {e : TypeId} {sz g n cap : Nat} {cs : List Value} (x : Sat E w (row e sz (.slice (some ⟨g, 0, none⟩) n cap) n cs :: L)) (i : Nat) : w.frozen? ⟨g, i, none⟩ = false := by
  obtain ⟨_, hx⟩ := x.rowCases
  rcases hx with ⟨e, _, _, _⟩ | ⟨g', cap', cur, e, h1, h2, h3, h4, y⟩
  · cases e
  · cases e; exact frozen_blk y.at i
end PH
namespace Go.Proofs.Ytmkpglabiikdeaa
open Go.RowKit PH

theorem pcs_one (l : List Pc) : ∀ u ∈ pcs l, u.oneCell' = true := by
  intro u hu
  simp only [pcs, List.mem_flatMap] at hu
  obtain ⟨p, -, hp⟩ := hu
  simp only [Pc.cells, List.mem_cons, List.not_mem_nil, or_false] at hp
  rcases hp with rfl | rfl | rfl | rfl | rfl <;> simp [Value.oneCell']

section
variable {E w : World} {L : List HP} {v : Value} {n : Nat} {cs : List Value} {o : Oper} {ac : Act} {Q : Exit → Act → World → Prop}
theorem runAppP (ty : TypeId) (x : Sat E w (row 39 5 v n cs :: L)) {b off c : Nat} {l : List Pc} {m : Nat} (hm : l.length = m) (hsee : Sees w (some ⟨b, off, none⟩) (pcs l)) (hn : n + m ≤ 1000000) :
    ∃ v' w', (Builtin.append_ #[23, 23] ty #[v, .slice (some ⟨b, off, none⟩) m c]).run Try.prog w = .ok v' w' ∧ Sat E w' (row 39 5 v' (n + m) (cs ++ pcs l) :: L) ∧ (∀ (k : Nat) (o : Obj), w.heap[k]? = some o → v.ownBlock ≠ some k → w'.heap[k]? = some o) := by
  subst hm
  obtain ⟨i, hi, hz, hsz, hby⟩ := info_parts (P := Try.prog) (e := 39) (z := .agg #[.int .i64 0, .int .i64 0, .int .i64 0, .int .i64 0, .string ByteArray.empty]) (size := 5) (bytes := 48) (by kernel_rfl)
  exact x.append (P := Try.prog) 23 ty i _ 48 Try.underlying23 hi hz hsz hby rfl ⟨b, off, none⟩ l.length c (pcs l) (pcs_length l) (fun j u hj => by rw [add_plain]; obtain ⟨_, _, e, h⟩ := hsee j u hj; cases e; exact h) (pcs_one l) (by unfold maxLen; omega) (by omega)
/-- 'append(v, l...)' of pieces. -/
theorem wpList_appP {ops : Array Oper} {rest : List Oper} (hgd : o.guard = none) (s p : Operand)
    (ho : o.op = .call { callee := .builtin .append, args := #[s, p], argTypes := #[23, 23] })
    (x : Sat E w (row 39 5 v n cs :: L)) (hs : ac.eval s = v) {b off c : Nat} {l : List Pc} {m : Nat} (hm : l.length = m) (hp : ac.eval p = .slice (some ⟨b, off, none⟩) m c) (hsee : Sees w (some ⟨b, off, none⟩) (pcs l)) (hn : n + m ≤ 1000000)
    (h : ∀ v' w', Sat E w' (row 39 5 v' (n + m) (cs ++ pcs l) :: L) → wpList Try.prog ops Q rest (ac.put o.dst v') w') :
    wpList Try.prog ops Q (o :: rest) ac w := by
  obtain ⟨v', w', hr, h2, -⟩ := runAppP o.type x (c := c) hm hsee hn
  refine wpList_run hgd ?_ (h v' w' h2)
  simp only [execOp, ho, resolve, invoke, builtin, Sem.run_bind, Sem.run_pure, Result.andThen_ok, List.map_toArray, List.map_cons, List.map_nil, hs, hp, hr]
theorem wp_appP {K : Act → World → Prop} (s p : Operand)
    (ho : o.op = .call { callee := .builtin .append, args := #[s, p], argTypes := #[23, 23] })
    (x : Sat E w (row 39 5 v n cs :: L)) (hs : ac.eval s = v) {b off c : Nat} {l : List Pc} {m : Nat} (hm : l.length = m) (hp : ac.eval p = .slice (some ⟨b, off, none⟩) m c) (hsee : Sees w (some ⟨b, off, none⟩) (pcs l)) (hn : n + m ≤ 1000000)
    (h : ∀ v' w', Sat E w' (row 39 5 v' (n + m) (cs ++ pcs l) :: L) → (∀ (k : Nat) (o : Obj), w.heap[k]? = some o → v.ownBlock ≠ some k → w'.heap[k]? = some o) → K (ac.put o.dst v') w') :
    o.wp Try.prog ac w K Q := by
  obtain ⟨v', w', hr, h2, h3⟩ := runAppP o.type x (c := c) hm hsee hn
  unfold Oper.wp execOp
  simp only [ho, resolve, invoke, builtin, Sem.run_bind, Sem.run_pure, Result.andThen_ok, List.map_toArray, List.map_cons, List.map_nil, hs, hp, hr]
  exact h _ _ h2 h3
end

theorem pcs_split (l : List Pc) (k : Nat) : pcs l = pcs (l.take k) ++ pcs (l.drop k) := by rw [← pcs_append, List.take_append_drop]
theorem Sees.take {w : World} {b off : Nat} {l : List Pc} (h : Sees w (some ⟨b, off, none⟩) (pcs l)) (k : Nat) : Sees w (some ⟨b, off, none⟩) (pcs (l.take k)) := by
  intro j u hj
  refine h j u ?_
  rw [pcs_split l k, List.getElem?_append_left (List.getElem?_eq_some_iff.1 hj).1]
  exact hj
theorem Sees.drop {w : World} {b off : Nat} {l : List Pc} (h : Sees w (some ⟨b, off, none⟩) (pcs l)) (k : Nat) (hk : k ≤ l.length) : Sees w (some ⟨b, off + k * 5, none⟩) (pcs (l.drop k)) := by
  intro j u hj
  obtain ⟨b', off', e, hc⟩ := h (k * 5 + j) u (by
    rw [pcs_split l k, List.getElem?_append_right (by rw [pcs_length, List.length_take]; omega), pcs_length, List.length_take, Nat.min_eq_left hk, Nat.add_sub_cancel_left]
    exact hj)
  cases e
  exact ⟨b, off + k * 5, rfl, by rw [Nat.add_assoc]; exact hc⟩
theorem _root_.PH.Sat.rowSeesP {E w : World} {L : List HP} {g n cap : Nat} {m : List Pc} (x : Sat E w (row 39 5 (.slice (some ⟨g, 0, none⟩) n cap) n (pcs m) :: L)) (hn : 0 < n) : Sees w (some ⟨g, 0, none⟩) (pcs m) := by
  obtain ⟨g', cap', e, -, -, -, h⟩ := x.rowSees hn
  cases e
  exact fun j u hj => ⟨g, 0, rfl, h j u hj⟩
theorem pcs_cell {l : List Pc} {k : Nat} (hk : k < l.length) : (∃ x, (pcs l)[k * 5]? = some (.int .i64 x)) ∧ (∃ x, (pcs l)[k * 5 + 1]? = some (.int .i64 x)) :=
  ⟨⟨_, flat5 Pc.cells 5 (fun _ => rfl) l k 0 l[k] (List.getElem?_eq_getElem hk) (by omega)⟩, ⟨_, flat5 Pc.cells 5 (fun _ => rfl) l k 1 l[k] (List.getElem?_eq_getElem hk) (by omega)⟩⟩
/-- A row of pieces, new: what a walk needs of it. -/
theorem rowNew {E w : World} {L : List HP} {v : Value} {l : List Pc} {k : Nat} (x : Sat E w (row 39 5 v (0 + l.length) ([] ++ pcs l) :: L)) (hk : k < l.length) :
    ∃ g cap x0 x1, v = .slice (some ⟨g, 0, none⟩) l.length cap ∧ w.cell? ⟨g, k * 5, none⟩ = some (.int .i64 x0) ∧ w.cell? ⟨g, k * 5 + 1, none⟩ = some (.int .i64 x1) ∧ w.frozen? ⟨g, k * 5, none⟩ = false ∧ w.frozen? ⟨g, k * 5 + 1, none⟩ = false ∧
      Sat E w (row 39 5 (.slice (some ⟨g, 0, none⟩) l.length cap) l.length (pcs l) :: L) := by
  rw [Nat.zero_add, List.nil_append] at x
  obtain ⟨g, cap, rfl, -, -, -, h⟩ := x.rowSees (by omega)
  obtain ⟨⟨x0, h0⟩, ⟨x1, h1⟩⟩ := pcs_cell hk
  have c0 := h _ _ h0
  have c1 := h _ _ h1
  rw [Nat.zero_add] at c0 c1
  exact ⟨g, cap, x0, x1, rfl, c0, c1, x.rowFree _, x.rowFree _, x⟩

set_option maxRecDepth 100000 in
set_option maxHeartbeats 1600000 in
theorem pieceMixed_ok (s : ByteArray) (ep sq other at_ : Int) (w : World) (hs : s.size ≤ 9223372036854775807) : Calls Try.prog 5 #[.string s, .int .i64 ep, .int .i64 sq, .int .i64 other, .int .i64 at_] w (TrueBelow w) := by
  by_cases h1 : 6400 < s.size
  · go_enter Try.func5, Try.ntmps5
    go_wp2_with (go_at_call 17; refine (known_ok _).mono ?_; rintro e w' ⟨rfl, hb⟩)
    go_ret
    exact ⟨rfl, hb⟩
  · obtain ⟨n, hn⟩ : ∃ n, nums ep sq = n := ⟨_, rfl⟩
    cases n
    · go_enter Try.func5, Try.ntmps5
      go_wp2_with (first
        | (go_at_call 20; refine (nums_ok _ _ _).mono ?_; rintro e w2 ⟨rfl, rfl⟩; rw [hn])
        | (go_at_call 17; refine (known_ok _).mono ?_; rintro e w' ⟨rfl, hb⟩))
      go_ret
      exact ⟨rfl, hb⟩
    · have hd := cutL_data s ep sq
      have hp : npc s.size ≤ 64 ∧ 1 ≤ npc s.size := by unfold npc; omega
      have hl := cutL_len s ep sq
      obtain ⟨l, hll⟩ : ∃ l, cutL s ep sq = l := ⟨_, rfl⟩
      have hcut := cut_ok s ep sq
      rw [hll] at hd hl hcut
      have HD := Lib.hid hd
      have HC := Lib.hid hcut
      have HLL := Lib.hid hll
      have HL := Lib.hid hl
      have hl64 : l.length ≤ 64 := by omega
      have hl1 : 1 ≤ l.length := by omega
      have hl0 : ((l.length : Int) == 0) = false := beq_eq_false_iff_ne.2 (by omega)
      clear hd hcut hll hl hp
      obtain ⟨no, hno⟩ : ∃ no, nums other other = no := ⟨_, rfl⟩
      by_cases hgo : 2 ≤ l.length ∧ 0 ≤ at_ ∧ at_ < (l.length : Int) ∧ no = true
      · obtain ⟨g1, g2, g3, rfl⟩ := hgo
        obtain ⟨k, rfl⟩ : ∃ k : Nat, at_ = k := ⟨at_.toNat, by omega⟩
        obtain ⟨jE, hjE⟩ : ∃ jE, joinErr (withE l k other) = jE := ⟨_, rfl⟩
        obtain ⟨jQ, hjQ⟩ : ∃ jQ, joinErr (withQ l k other) = jQ := ⟨_, rfl⟩
        have hjE2 : (jE == 0) = (other == ep) := by
          rw [← hjE, ← HLL.out, join_withE (by omega) hn (by have := HL.out; omega) (by have := HL.out; omega)]
          by_cases e : other = ep <;> simp [e]
        have hjQ2 : (jQ == 0) = (other == sq) := by
          rw [← hjQ, ← HLL.out, join_withQ (by omega) hn (by have := HL.out; omega) (by have := HL.out; omega)]
          by_cases e : other = sq <;> simp [e]
        have hjC : joinErr (without l k) = 14 := by rw [← HLL.out]; exact join_without (by have := HL.out; omega) (by have := HL.out; omega)
        have HJE := Lib.hid hjE
        have HJQ := Lib.hid hjQ
        have HJC := Lib.hid hjC
        have HJE2 := Lib.hid hjE2
        have HJQ2 := Lib.hid hjQ2
        clear hjE hjQ hjE2 hjQ2 hjC
        have hk5 : k * 5 < l.length * 5 := by omega
        go_enter Try.func5, Try.ntmps5
        go_wp2_with (first
          | (go_at_call 20; refine (nums_ok _ _ _).mono ?_; rintro e w2 ⟨rfl, rfl⟩; first | rw [hn] | rw [hno])
          | (go_at_call 18; refine (HC.out _ (by omega) hn).mono ?_; rintro e w1 ⟨a, c, rfl, hsee, hb, hcap⟩; obtain ⟨b, off, rfl, -⟩ := hsee.piece (k := 0) (by omega); have HSEE := Lib.hid hsee; have HB := Lib.hid hb; clear hsee hb)
          | (at_builtin; refine wpList_appP rfl _ _ rfl (Sat.rowEmpty _ 5 HSA.out (World.size_setCell ..)) rfl rfl rfl (HSEE.out.of_below (HSA.out.p1.below.alloc HSA.out.p1.below.size _)) (by omega) ?_; intro vB wB hsB; obtain ⟨gB, capB, _, _, rfl, _, cB, _, fB, hsB'⟩ := rowNew hsB (k := k) (by omega); have hsB2 := hsB'.rowSet (i := k * 5 + 1) (by omega) (.int .i64 other); rw [← pcs_withQ] at hsB2; have HSB := Lib.hid hsB2; clear hsB hsB' hsB2)
          | (at_builtin; refine wpList_appP rfl _ _ rfl (Sat.rowEmpty _ 5 (Sat.start _) rfl) rfl rfl rfl (HSEE.out.of_below ((Below.refl _ _).alloc (Nat.le_refl _) _)) (by omega) ?_; intro vA wA hsA; obtain ⟨gA, capA, _, _, rfl, cA, _, fA, _, hsA'⟩ := rowNew hsA (k := k) (by omega); have hsA2 := hsA'.rowSet (i := k * 5) (by omega) (.int .i64 other); rw [← pcs_withE] at hsA2; have HSA := Lib.hid hsA2; clear hsA hsA' hsA2)
          | (go_at_call 21; have hj := join_ok (c := capB) (l := withQ l k other) (HSC.out.rowSeesP (by omega)) (by rw [withQ_len]; omega) (data_withQ HD.out); rw [withQ_len] at hj; refine hj.mono ?_; clear hj; rintro e wJ2 ⟨rfl, hbJ⟩; rw [HJQ.out]; have HSD := Lib.hid (HSC.out.ofBelow hbJ); clear hbJ)
          | (go_at_call 21; have hj := join_ok (c := capA) (l := withE l k other) (HSB.out.p1.rowSeesP (by omega)) (by rw [withE_len]; omega) (data_withE HD.out); rw [withE_len] at hj; refine hj.mono ?_; clear hj; rintro e wJ1 ⟨rfl, hbJ⟩; rw [HJE.out]; have HSC := Lib.hid (HSB.out.ofBelow hbJ); clear hbJ)
          | (go_at_call 17; refine (known_ok _).mono ?_; rintro e w5 ⟨rfl, hb5⟩))
        have hk0 : 0 ≤ (k : Int) + 1 := by omega
        have hk1 : (k : Int) + 1 ≤ (l.length : Int) := by omega
        have hkc : k ≤ c := by omega
        have hkc1 : k + 1 ≤ c := by omega
        have hkl : k + 1 ≤ l.length := by omega
        obtain ⟨b2, off2, hb2, hs2⟩ : ∃ b2 off2, (if c = k + 1 then some (⟨b, off, none⟩ : Addr) else some ⟨b, off + (k + 1) * 5, none⟩) = some ⟨b2, off2, none⟩ ∧ ∀ w, Sees w (some ⟨b, off, none⟩) (pcs l) → Sees w (some ⟨b2, off2, none⟩) (pcs (l.drop (k + 1))) := by
          by_cases hck : c = k + 1
          · exact ⟨b, off, by rw [if_pos hck], fun w _ => by rw [List.drop_eq_nil_of_le (by omega)]; exact fun j u hj => by simp [pcs] at hj⟩
          · exact ⟨b, off + (k + 1) * 5, by rw [if_neg hck], fun w h => h.drop (k + 1) hkl⟩
        have HS2 := Lib.hid hs2
        clear hs2
        refine wp_region_planL [(1, true), (2, true), (3, true), (5, true), (6, true), (7, true), (8, true), (0, false), (4, false), (9, false), (10, false), (11, true), (12, true), (13, true), (14, true), (15, true)] [] (by kernel_rfl) (by kernel_rfl) (by intro c a d v w h; cases d <;> exact h) ?_ ?_
        · exact trivial
        simp only [planOps, List.getElem?_cons_zero, List.getElem?_cons_succ]
        iterate 7 ((apply plan_pure rfl; (intro w1; go_simp; try go_bits); with_reducible rfl); simp only [Act.put, List.setIfInBounds_toArray, List.set_cons_zero, List.set_cons_succ])
        refine plan_loud rfl (fun K hK => ?_); go_simp
        refine hK _ _ trivial ?_
        clear hK K
        try simp only [Act.put, List.setIfInBounds_toArray, List.set_cons_zero, List.set_cons_succ]
        refine plan_loud rfl (fun K hK => ?_)
        refine wp_appP _ _ rfl (Sat.rowEmpty _ 5 HSD.out.drew rfl) rfl (l := l.take k) (by rw [List.length_take]; omega) rfl ((HSEE.out.of_below (HSD.out.p2.below.drew.alloc HSD.out.p2.below.size _)).take k) (by omega) ?_
        intro v3 w3 hs3 _
        refine hK _ _ trivial ?_
        clear hK K
        try simp only [Act.put, List.setIfInBounds_toArray, List.set_cons_zero, List.set_cons_succ]
        refine plan_loud rfl (fun K hK => ?_)
        refine wp_appP _ _ rfl hs3 rfl (l := l.drop (k + 1)) (by rw [List.length_drop]) rfl (HS2.out _ (HSEE.out.of_below hs3.p3.below)) (by omega) ?_
        intro v4 w4 hs4 _
        refine hK _ _ trivial ?_
        clear hK K
        try simp only [Act.put, List.setIfInBounds_toArray, List.set_cons_zero, List.set_cons_succ]
        rw [List.nil_append, ← pcs_append, show 0 + k + (l.length - (k + 1)) = l.length - 1 by omega] at hs4
        obtain ⟨g4, cap4, rfl, -, -, -, -⟩ := hs4.rowSees (by omega)
        have hj := join_ok (c := cap4) (l := without l k) (hs4.rowSeesP (by omega)) (by rw [without_len _ _ (by omega)]; omega) (data_without HD.out)
        rw [without_len _ _ (by omega)] at hj
        refine plan_loud rfl (fun K hK => ?_); go_simp
        refine hj.mono ?_
        rintro e w5 ⟨rfl, hb5⟩
        rw [HJC.out]
        dsimp only
        refine hK _ _ trivial ?_
        clear hK K hj
        have HSF := Lib.hid (hs4.p3.below.trans (hb5.mono hs4.p3.below.size))
        clear hs4 hs3 hb5
        iterate 5 ((apply plan_pure rfl; (intro w1; go_simp; try go_bits); with_reducible rfl); simp only [Act.put, List.setIfInBounds_toArray, List.set_cons_zero, List.set_cons_succ])
        refine plan_nil ?_
        have hjE2 := HJE2.out
        have hjQ2 := HJQ2.out
        go_wp2_with (go_at_call 17; refine (known_ok _).mono ?_; rintro e w6 ⟨rfl, hb6⟩)
        go_ret
        exact ⟨rfl, up (up HB.out HSF.out) hb6⟩
      · by_cases a1 : l.length < 2
        · clear hgo
          go_enter Try.func5, Try.ntmps5
          go_wp2_with (first
            | (go_at_call 20; refine (nums_ok _ _ _).mono ?_; rintro e w2 ⟨rfl, rfl⟩; first | rw [hn] | rw [hno])
            | (go_at_call 18; refine (HC.out _ (by omega) hn).mono ?_; rintro e w1 ⟨a, c, rfl, hsee, hb, hcap⟩; have HB := Lib.hid hb; clear hsee hb)
            | (go_at_call 17; refine (known_ok _).mono ?_; rintro e w5 ⟨rfl, hb5⟩))
          go_ret
          exact ⟨rfl, up HB.out hb5⟩
        by_cases a2 : at_ < 0
        · clear hgo
          go_enter Try.func5, Try.ntmps5
          go_wp2_with (first
            | (go_at_call 20; refine (nums_ok _ _ _).mono ?_; rintro e w2 ⟨rfl, rfl⟩; first | rw [hn] | rw [hno])
            | (go_at_call 18; refine (HC.out _ (by omega) hn).mono ?_; rintro e w1 ⟨a, c, rfl, hsee, hb, hcap⟩; have HB := Lib.hid hb; clear hsee hb)
            | (go_at_call 17; refine (known_ok _).mono ?_; rintro e w5 ⟨rfl, hb5⟩))
          go_ret
          exact ⟨rfl, up HB.out hb5⟩
        by_cases a3 : (l.length : Int) ≤ at_
        · clear hgo
          go_enter Try.func5, Try.ntmps5
          go_wp2_with (first
            | (go_at_call 20; refine (nums_ok _ _ _).mono ?_; rintro e w2 ⟨rfl, rfl⟩; first | rw [hn] | rw [hno])
            | (go_at_call 18; refine (HC.out _ (by omega) hn).mono ?_; rintro e w1 ⟨a, c, rfl, hsee, hb, hcap⟩; have HB := Lib.hid hb; clear hsee hb)
            | (go_at_call 17; refine (known_ok _).mono ?_; rintro e w5 ⟨rfl, hb5⟩))
          go_ret
          exact ⟨rfl, up HB.out hb5⟩
        obtain rfl : no = false := by
          cases no with
          | false => rfl
          | true => exact absurd ⟨by omega, by omega, by omega, rfl⟩ hgo
        clear hgo
        go_enter Try.func5, Try.ntmps5
        go_wp2_with (first
          | (go_at_call 20; refine (nums_ok _ _ _).mono ?_; rintro e w2 ⟨rfl, rfl⟩; first | rw [hn] | rw [hno])
          | (go_at_call 18; refine (HC.out _ (by omega) hn).mono ?_; rintro e w1 ⟨a, c, rfl, hsee, hb, hcap⟩; have HB := Lib.hid hb; clear hsee hb)
          | (go_at_call 17; refine (known_ok _).mono ?_; rintro e w5 ⟨rfl, hb5⟩))
        go_ret
        exact ⟨rfl, up HB.out hb5⟩
end Go.Proofs.Ytmkpglabiikdeaa
