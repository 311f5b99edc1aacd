/-
  Layer 12: what stays so of a journal that is played, and of the document's; plain laws, no program in sight.
-/
import Derived.Test.YtmkpglabiikdeaaGreatDoorFindW
import Derived.Test.YtmkpglabiikdeaaGreatDoorMapp
import Derived.Test.YtmkpglabiikdeaaGreatDoorDiskS
namespace Go.Proofs.YtmkpglabiikdeaaGreatDoor
open Go.RowKit PH
attribute [local irreducible] fld pcB pcOfB left getPc

/-- What stays so behind i steps. -/
structure PlayI (C fr i : Nat) (D : Dk) (r : Rg) (st : Nat) (sq si : Int) : Prop where
  c0 : 0 < C
  cC : C ≤ 20
  f5 : fr ≤ 5
  fine : Fine 25 D (50 * i)
  rf : r.fro = fr
  rc : r.cnt = C
  rp : r.pos < C
  ru : r.used ≤ C
  s0 : 1 ≤ r.seq
  s1 : r.seq ≤ 1 + 25 * i
  e0 : 2 ≤ r.ep
  e1 : r.ep ≤ 2 + i
  hst : st < C
  q0 : 1 ≤ sq
  q1 : sq ≤ 1 + 25 * i
  i0 : 1 ≤ si
  i1 : si ≤ r.ep
theorem openT_len {D : Dk} {fr cn po : Nat} {sq si ep : Int} : ((openT D fr cn po sq si ep).map List.length).sum ≤ cn ∧ (openT D fr cn po sq si ep).length ≤ cn := by
  have h := stands_len (f := pcAt D ⟨fr, cn, 0, 0, sq, ep⟩ po) (C := cn) (E := ep) (k := cn) (b := 0) (least := si) (seq := sq) (by omega)
  unfold openT
  omega
section
variable {C fr i : Nat} {D : Dk} {r : Rg} {st : Nat} {sq si : Int}
theorem PlayI.new (hc : 0 < C) (hC : C ≤ 20) (hf : fr ≤ 5) (hst : st < C) : PlayI C fr 0 (newD 25) ⟨fr, C, st, 0, 1, 2⟩ st 1 1 :=
  ⟨hc, hC, hf, Fine.new (by omega), rfl, rfl, hst, Nat.zero_le _, by dsimp only; omega, by dsimp only; omega, by dsimp only; omega, by dsimp only; omega, hst, by omega, by omega, by omega, by dsimp only; omega⟩
theorem PlayI.wait (I : PlayI C fr i D r st sq si) : PlayI C fr (i + 1) D r st sq si :=
  ⟨I.c0, I.cC, I.f5, I.fine.le (by omega), I.rf, I.rc, I.rp, I.ru, I.s0, by have := I.s1; omega, I.e0, by have := I.e1; omega, I.hst, I.q0, by have := I.q1; omega, I.i0, I.i1⟩
theorem PlayI.nums (I : PlayI C fr i D r st sq si) (hi : i ≤ 41) : nums r.ep r.seq = true := nums_of (by have := I.e0; omega) (by have := I.e1; omega) I.s0
theorem PlayI.append (I : PlayI C fr i D r st sq si) (hi : i ≤ 40) {s : ByteArray} (hs : s.size ≤ 1000) (hf : npc s.size ≤ C - r.used) : PlayI C fr (i + 1) (wroteR D r (cutL s r.ep r.seq) (npc s.size)) (rgApp r (npc s.size)) st sq si := by
  have hu := I.ru
  have hc := I.rc
  have hn : npc s.size ≤ 20 := by have := I.cC; omega
  have h5 := I.f5
  have h4 := I.cC
  have h3 := I.rf
  have hw := I.fine.wrote (r := r) (by omega) (by rw [hc]; exact I.c0) (by omega) (l := cutL s r.ep r.seq) (cutL_ok s _ _ (by omega) (I.nums (by omega))) (npc s.size) (by rw [cutL_len]; omega) (by omega)
  refine ⟨I.c0, I.cC, I.f5, hw.le (by omega), I.rf, I.rc, ?_, ?_, ?_, ?_, I.e0, by have := I.e1; show r.ep ≤ _; omega, I.hst, I.q0, by have := I.q1; omega, I.i0, I.i1⟩
  · show (r.pos + npc s.size) % r.cnt < C
    rw [hc]; exact Nat.mod_lt _ I.c0
  · show r.used + npc s.size ≤ C
    omega
  · show 1 ≤ r.seq + 1
    have := I.s0; omega
  · show r.seq + 1 ≤ _
    have := I.s1; omega
theorem PlayI.barrier (I : PlayI C fr i D r st sq si) (hi : i ≤ 40) : PlayI C fr (i + 1) (barrierD D) r st sq si :=
  ⟨I.c0, I.cC, I.f5, (I.fine.barrier (by omega) (by omega)).1.le (by omega), I.rf, I.rc, I.rp, I.ru, I.s0, by have := I.s1; omega, I.e0, by have := I.e1; omega, I.hst, I.q0, by have := I.q1; omega, I.i0, I.i1⟩
theorem PlayI.clear (I : PlayI C fr i D r st sq si) (hi : i ≤ 40) : PlayI C fr (i + 1) (barrierD D) { r with used := 0 } r.pos r.seq r.ep :=
  ⟨I.c0, I.cC, I.f5, (I.fine.barrier (by omega) (by omega)).1.le (by omega), I.rf, I.rc, I.rp, Nat.zero_le _, I.s0, by have := I.s1; show r.seq ≤ _; omega, I.e0, by have := I.e1; show r.ep ≤ _; omega, I.rp, I.s0, by have := I.s1; omega, by have := I.e0; omega, Int.le_refl _⟩
/-- It is opened again, on a disk that is as well. -/
theorem PlayI.open (I : PlayI C fr i D r st sq si) {D' : Dk} (hf : Fine 25 D' (50 * i)) : PlayI C fr (i + 1) D' (openR D' fr C st sq si (r.ep + 1)) st sq si := by
  obtain ⟨h1, h2⟩ := openT_len (D := D') (fr := fr) (cn := C) (po := st) (sq := sq) (si := si) (ep := r.ep + 1)
  have hC := I.cC
  have a1 := I.q0
  have a2 := I.q1
  have a3 := I.e0
  have a4 := I.e1
  have a5 := I.i1
  refine ⟨I.c0, I.cC, I.f5, hf.le (by omega), rfl, rfl, ?_, ?_, ?_, ?_, ?_, ?_, I.hst, I.q0, by omega, I.i0, ?_⟩ <;> unfold openR <;> dsimp only
  · exact Nat.mod_lt _ I.c0
  · exact h1
  · omega
  · omega
  · omega
  · omega
  · omega
theorem PlayI.crash (I : PlayI C fr i D r st sq si) (zs : List Int) : PlayI C fr (i + 1) (crashD D zs) (openR (crashD D zs) fr C st sq si (r.ep + 1)) st sq si := I.open (I.fine.crash (by omega) zs).1
theorem PlayI.okOpen (I : PlayI C fr i D r st sq si) (hi : i ≤ 40) {D' : Dk} (hf : Fine 25 D' (50 * i)) : OkOpen D' fr C st sq si (r.ep + 1) := by
  have h1 := hf.run.len
  have h5 := I.f5
  have h4 := I.cC
  have h3 := I.e1
  have h2 := I.i1
  have h6 := I.e0
  have h7 := I.q1
  exact ⟨I.c0, by omega, by omega, I.hst, I.q0, by omega, by omega, by omega, I.i0, by omega⟩
end
end Go.Proofs.YtmkpglabiikdeaaGreatDoor
/-
  Layer 12: what the steps of the law RingPlays do to both journals.
-/
namespace Go.Proofs.YtmkpglabiikdeaaGreatDoor
open Go.RowKit PH
attribute [local irreducible] fld pcB pcOfB left getPc

theorem wp_store_mr {E w : World} {L : List HP} {K : Act → World → Prop} {op : Oper} {a : Act} {Q : Exit → Act → World → Prop} {q : Nat} {U : Rg} (S : Sat E w (isMr q U :: L)) (V : Rg)
    (hop : ∃ x y : Operand, op.op = .store 64 x y ∧ a.eval x = .pointer (some ⟨q, 0, none⟩) ∧ a.eval y = .agg #[.int .i64 V.fro, .int .i64 V.cnt, .int .i64 V.pos, .int .i64 V.used, .int .i64 V.seq, .int .i64 V.ep])
    (h : ∀ w', Sat E w' (isMr q V :: L) → K (a.put op.dst undef) w') : op.wp Tryz.prog a w K Q :=
  by
  obtain ⟨x, y, ho, hx, hy⟩ := hop
  exact wp_store_mid 64 x y ho q 0 V.mr hx hy (pt_there S rfl) infoMr (mr_one V) (h _ (setCells_all (C := V.mr) S rfl))
section
variable {E0 W : World} {L : List HP} {C fr i : Nat} {D : Dk} {r : Rg} {st : Nat} {sq si : Int} {q b m : Nat}
theorem PlayI.hov (I : PlayI C fr i D r st sq si) (hi : i ≤ 40) (D' : Dk) (ep : Int) : sq + (openT D' fr C st sq si ep).length ≤ 9223372036854775807 := by
  have h := (openT_len (D := D') (fr := fr) (cn := C) (po := st) (sq := sq) (si := si) (ep := ep)).2
  have h1 := I.q1
  have h2 := I.cC
  omega
theorem PlayI.openA (I : PlayI C fr i D r st sq si) (hi : i ≤ 40) {D' : Dk} (hf : Fine 25 D' (50 * i)) (x : Sat E0 W (isDisk b D' :: L)) :
    Calls Tryz.prog 18 #[.pointer (some ⟨b, 0, none⟩), .int .i64 fr, .int .i64 C, .int .i64 st, .int .i64 sq, .int .i64 si, .int .i64 (r.ep + 1)] W fun e w' =>
      ∃ q v, e = .returned (.tuple #[.pointer (some ⟨q, 0, none⟩), v, .int .i64 0]) ∧ Sat E0 w' (isRing q b (openR D' fr C st sq si (r.ep + 1)) :: isDisk b D' :: row 9 1 v (openT D' fr C st sq si (r.ep + 1)).length (sects ((openT D' fr C st sq si (r.ep + 1)).map joined)) :: L) :=
  open_ok x hf.run.ok (hf.alive (by omega)) (fun j => hf.run.read j) (I.okOpen hi hf) (I.hov hi D' _)
theorem PlayI.openB (I : PlayI C fr i D r st sq si) (hi : i ≤ 40) {D' : Dk} (hf : Fine 25 D' (50 * i)) (x : Sat E0 W (isRef b D' :: L)) :
    Calls Tryz.prog 32 #[.pointer (some ⟨b, 0, none⟩), .int .i64 fr, .int .i64 C, .int .i64 st, .int .i64 sq, .int .i64 si, .int .i64 (r.ep + 1)] W fun e w' =>
      ∃ v, e = .returned (.tuple #[.agg (openR D' fr C st sq si (r.ep + 1)).mr, v]) ∧ Sat E0 w' (isRef b D' :: row 9 1 v (openT D' fr C st sq si (r.ep + 1)).length (sects ((openT D' fr C st sq si (r.ep + 1)).map joined)) :: L) :=
  refOpen_ok x hf.run.ok (hf.alive (by omega)) (hf.run.made (by omega)) (fun j => hf.run.read j) (I.okOpen hi hf) (I.hov hi D' _)
theorem PlayI.fits (I : PlayI C fr i D r st sq si) {s : ByteArray} (hs : s.size ≤ 1000) (x : Sat E0 W (isRing q b r :: L)) :
    Calls Tryz.prog 27 #[.pointer (some ⟨q, 0, none⟩), .int .i64 s.size] W fun e w' => e = .returned (.bool (decide (npc s.size ≤ r.cnt - r.used))) ∧ Sat E0 w' (isRing q b r :: L) := by
  have h1 := I.ru
  have h2 := I.rc
  have h3 := I.cC
  exact fits_ok x s (by omega) (by omega) (by omega)
theorem PlayI.appA (I : PlayI C fr i D r st sq si) (hi : i ≤ 40) {s : ByteArray} (hs : s.size ≤ 1000) (hf : npc s.size ≤ r.cnt - r.used) (x : Sat E0 W (isRing q b r :: isDisk b D :: L)) :
    Calls Tryz.prog 26 #[.pointer (some ⟨q, 0, none⟩), .string s] W fun e w' => e = .returned (.int .i64 0) ∧ Sat E0 w' (isRing q b (rgApp r (npc s.size)) :: isDisk b (wroteR D r (cutL s r.ep r.seq) (npc s.size)) :: L) := by
  have h1 := I.ru
  have h2 := I.rc
  have h3 := I.cC
  have h4 := I.s1
  have h5 := I.rp
  have h6 := I.rf
  have h7 := I.f5
  have h8 := I.c0
  exact append_ok x I.fine (by omega) s (by omega) (I.nums (by omega)) (by omega) (by omega) (by omega) (by omega) (by omega) (by omega) hf
theorem PlayI.appB (I : PlayI C fr i D r st sq si) (hi : i ≤ 40) {s : ByteArray} (hs : s.size ≤ 1000) (hf : npc s.size ≤ r.cnt - r.used) (x : Sat E0 W (isMr m r :: isRef b D :: L)) :
    Calls Tryz.prog 33 #[.pointer (some ⟨m, 0, none⟩), .pointer (some ⟨b, 0, none⟩), .string s] W fun e w' => e = .returned (.bool true) ∧ Sat E0 w' (isMr m (rgApp r (npc s.size)) :: isRef b (wroteR D r (cutL s r.ep r.seq) (npc s.size)) :: L) := by
  have h1 := I.ru
  have h2 := I.rc
  have h3 := I.cC
  have h4 := I.s1
  have h5 := I.rp
  have h6 := I.rf
  have h7 := I.f5
  have h8 := I.c0
  exact refAppend_ok x I.fine (by omega) s (by omega) (I.nums (by omega)) (by omega) (by omega) (by omega) (by omega) (by omega) (by omega) hf
theorem PlayI.noA (I : PlayI C fr i D r st sq si) (hi : i ≤ 40) {s : ByteArray} (hs : s.size ≤ 1000) (hf : ¬ npc s.size ≤ r.cnt - r.used) (x : Sat E0 W (isRing q b r :: isDisk b D :: L)) :
    Calls Tryz.prog 26 #[.pointer (some ⟨q, 0, none⟩), .string s] W fun e w' => e = .returned (.int .i64 31) ∧ Sat E0 w' (isRing q b r :: isDisk b D :: L) := by
  have h1 := I.ru
  have h2 := I.rc
  have h3 := I.cC
  exact append_full x s (by omega) (I.nums (by omega)) (by omega) (by omega) (by omega) (by omega)
theorem PlayI.noB (I : PlayI C fr i D r st sq si) {s : ByteArray} (hs : s.size ≤ 1000) (hf : ¬ npc s.size ≤ r.cnt - r.used) (x : Sat E0 W (isMr m r :: isRef b D :: L)) :
    Calls Tryz.prog 33 #[.pointer (some ⟨m, 0, none⟩), .pointer (some ⟨b, 0, none⟩), .string s] W fun e w' => e = .returned (.bool false) ∧ Sat E0 w' (isMr m r :: isRef b D :: L) := by
  have h1 := I.ru
  have h2 := I.rc
  have h3 := I.cC
  exact refAppend_full x s (by omega) (by omega) (by omega) (by omega)
theorem PlayI.room (I : PlayI C fr i D r st sq si) (x : Sat E0 W (isRing q b r :: L)) :
    Calls Tryz.prog 20 #[.pointer (some ⟨q, 0, none⟩)] W fun e w' => e = .returned (.int .i64 ((C : Int) - r.used)) ∧ w' = W.drew := by
  have h1 := I.ru
  have h2 := I.rc
  have h3 := I.cC
  have h := room_ok x (by omega) (by omega)
  rw [h2] at h
  exact h
end
end Go.Proofs.YtmkpglabiikdeaaGreatDoor
/-
  Layer 12: the law RingPlays, walked through.
-/
namespace Go.Proofs.YtmkpglabiikdeaaGreatDoor
open Go.RowKit PH
attribute [local irreducible] fld pcB pcOfB left getPc

set_option maxRecDepth 100000 in
set_option maxHeartbeats 12800000 in
theorem ringPlays_ok {W : World} {fr cn po : Int} {l : List Pq} {a : Option Addr} {c : Nat} (hsee : Sees W a (pqs l)) (hall : ∀ x ∈ l, x.ok W) (hl : l.length ≤ 9223372036854775807) :
    Calls Tryz.prog 8 #[.int .i64 fr, .int .i64 cn, .int .i64 po, .slice a l.length c] W (TrueBelow12 W) := by
  have hlr := large12_ok (c := c) hsee hl (fun x hx => by obtain ⟨-, k2, k3⟩ := hall x hx; unfold maxLen at k2 k3; exact ⟨by omega, by omega⟩)
  obtain ⟨r, hr⟩ : ∃ r, bigP l = r := ⟨_, rfl⟩
  obtain ⟨len, hlen⟩ : ∃ n, l.length = n := ⟨_, rfl⟩
  rw [hr, hlen] at hlr
  rw [hlen] at hl ⊢
  have HL := Lib.hid hlr
  have HR := Lib.hid hr
  have HLEN := Lib.hid hlen
  have HSEE := Lib.hid hsee
  have HALL := Lib.hid hall
  clear hlr hr hlen hsee hall
  by_cases k1 : fr < 0
  · go_enter Tryz.func8, Tryz.ntmps8
    go_wp2_with (first | (go_at_call 28; refine HL.out.mono ?_; rintro e w2 ⟨rfl, rfl⟩) | (go_at_call 19; refine (known12_ok _).mono ?_; rintro e w2 ⟨rfl, hb⟩))
    go_ret
    exact ⟨rfl, hb⟩
  by_cases k2 : 5 < fr
  · go_enter Tryz.func8, Tryz.ntmps8
    go_wp2_with (first | (go_at_call 28; refine HL.out.mono ?_; rintro e w2 ⟨rfl, rfl⟩) | (go_at_call 19; refine (known12_ok _).mono ?_; rintro e w2 ⟨rfl, hb⟩))
    go_ret
    exact ⟨rfl, hb⟩
  by_cases k3 : cn < 1
  · go_enter Tryz.func8, Tryz.ntmps8
    go_wp2_with (first | (go_at_call 28; refine HL.out.mono ?_; rintro e w2 ⟨rfl, rfl⟩) | (go_at_call 19; refine (known12_ok _).mono ?_; rintro e w2 ⟨rfl, hb⟩))
    go_ret
    exact ⟨rfl, hb⟩
  by_cases k4 : 20 < cn
  · go_enter Tryz.func8, Tryz.ntmps8
    go_wp2_with (first | (go_at_call 28; refine HL.out.mono ?_; rintro e w2 ⟨rfl, rfl⟩) | (go_at_call 19; refine (known12_ok _).mono ?_; rintro e w2 ⟨rfl, hb⟩))
    go_ret
    exact ⟨rfl, hb⟩
  by_cases k5 : po < 0
  · go_enter Tryz.func8, Tryz.ntmps8
    go_wp2_with (first | (go_at_call 28; refine HL.out.mono ?_; rintro e w2 ⟨rfl, rfl⟩) | (go_at_call 19; refine (known12_ok _).mono ?_; rintro e w2 ⟨rfl, hb⟩))
    go_ret
    exact ⟨rfl, hb⟩
  by_cases k6 : cn ≤ po
  · go_enter Tryz.func8, Tryz.ntmps8
    go_wp2_with (first | (go_at_call 28; refine HL.out.mono ?_; rintro e w2 ⟨rfl, rfl⟩) | (go_at_call 19; refine (known12_ok _).mono ?_; rintro e w2 ⟨rfl, hb⟩))
    go_ret
    exact ⟨rfl, hb⟩
  obtain ⟨FR, rfl⟩ : ∃ C : Nat, fr = C := ⟨fr.toNat, by omega⟩
  obtain ⟨C, rfl⟩ : ∃ C : Nat, cn = C := ⟨cn.toNat, by omega⟩
  obtain ⟨P, rfl⟩ : ∃ P : Nat, po = P := ⟨po.toNat, by omega⟩
  cases r
  · have hl40 : len ≤ 40 := by rw [← HLEN.out]; exact (bigP_no HR.out).1
    have I0 : PlayI C FR 0 (newD 25) ⟨FR, C, P, 0, 1, 2⟩ P 1 1 := PlayI.new (by omega) (by omega) (by omega) (by omega)
    have hoo : OkOpen (newD 25) FR C P 1 1 2 := ⟨by omega, by rw [newD_len]; omega, by rw [newD_len]; omega, by omega, by omega, by omega, by omega, by omega, by omega, by omega⟩
    have hop := fun (b : Nat) (w : World) (L : List HP) (y : Sat W w (isDisk b (newD 25) :: L)) => opened_new y (by omega) (by omega) hoo
    have hrp : ∀ (b : Nat) (w : World) (L : List HP) (y : Sat W w (isRef b (newD 25) :: L)), Calls Tryz.prog 32 #[.pointer (some ⟨b, 0, none⟩), .int .i64 FR, .int .i64 C, .int .i64 P, .int .i64 1, .int .i64 1, .int .i64 2] w fun e w' =>
        ∃ v, e = .returned (.tuple #[.agg #[.int .i64 FR, .int .i64 C, .int .i64 P, .int .i64 0, .int .i64 1, .int .i64 2], v]) ∧ Sat W w' (isRef b (newD 25) :: L) := fun b w L y => by
      have hf : Fine 25 (newD 25) 0 := Fine.new (by omega)
      refine (refOpen_ok y hf.run.ok (hf.alive (by omega)) (hf.run.made (by omega)) (fun j => hf.run.read j) hoo (by rw [openT_new hoo]; decide)).mono ?_
      rintro e w' ⟨v, rfl, hx⟩
      rw [openR_new hoo]
      rw [openT_new hoo] at hx
      exact ⟨v, rfl, hx.p1.tail⟩
    have HI0 := Lib.hid I0
    have HOP := Lib.hid hop
    have HRP := Lib.hid hrp
    clear I0 hop hrp hoo
    go_enter Tryz.func8, Tryz.ntmps8
    go_wp2_with (first
      | (go_at_call 28; refine HL.out.mono ?_; rintro e w2 ⟨rfl, hw⟩; subst w2)
      | (go_at_call 17; refine (new_ok (n := 25) (Sat.start _) (by omega) (by omega)).mono ?_; rintro e w2 ⟨b, rfl, hx2⟩; have HX2 := Lib.hid hx2; clear hx2)
      | (go_at_call 31; refine (refnew_ok (n := 25) HX2.out (by omega)).mono ?_; rintro e w3 ⟨x, rfl, hx3⟩; have HX3 := Lib.hid hx3; clear hx3)
      | (go_at_call 18; refine (HOP.out _ _ _ HX3.out.p1).mono ?_; rintro e w4 ⟨q, av, cv, rfl, hx4⟩; have HX4 := Lib.hid hx4; clear hx4)
      | (go_at_call 32; refine (HRP.out _ _ _ HX4.out.p2).mono ?_; rintro e w5 ⟨v0, rfl, hx5⟩; obtain ⟨m, hm⟩ : ∃ m, w5.heap.size = m := ⟨_, rfl⟩; have hx5 := zmr hx5; rw [hm] at hx5; have HX5 := Lib.hid hx5; clear hx5)
      | (with_reducible refine wpList_store_mr HX5.out (⟨FR, C, P, 0, 1, 2⟩ : Rg) ?_ ?_; exact ⟨rfl, _, _, rfl, rfl, rfl⟩; intro w6 hx6; have HX6 := Lib.hid (hx6.p3.p3); clear hx6))
    go_loopw [12, 13, 18, 19, 20, 21] (fun e12 r13 s18 q19 n20 i wr => ∃ (k st : Nat) (sq si : Int) (r : Rg) (q : Nat) (D : Dk), k ≤ len ∧ PlayI C FR k D r st sq si ∧
      e12 = .int .i64 r.ep ∧ r13 = .pointer (some ⟨q, 0, none⟩) ∧ s18 = .int .i64 st ∧ q19 = .int .i64 sq ∧ n20 = .int .i64 si ∧ i = .int .i64 k ∧
      Sat W wr (isRing q b r :: isDisk b D :: isMr m r :: isRef x D :: [heapIs W])) (fun _ _ _ _ _ i _ => len - (intOf i).toNat)
    case atStart =>
      exact ⟨0, P, 1, 1, ⟨FR, C, P, 0, 1, 2⟩, q, newD 25, by omega, HI0.out, rfl, rfl, rfl, rfl, rfl, rfl, HX6.out⟩
    case round =>
      clear HX6 HX5 HX4 HX3 HX2 HOP HRP HI0 hm
      obtain ⟨k, st, sq, si, r, q, D, hk, I, rfl, rfl, rfl, rfl, rfl, rfl, hx⟩ := hrel
      have hi40 : k ≤ 40 := by omega
      have hEb : r.ep ≤ 1000 := by have := I.e1; omega
      have hE0 : 0 ≤ r.ep := by have := I.e0; omega
      have HI := Lib.hid I
      have HX := Lib.hid hx
      clear hx I
      by_cases hlt : k < len
      · obtain ⟨sp, hsp⟩ : ∃ x, l[k]? = some x := ⟨_, List.getElem?_eq_getElem (by rw [HLEN.out]; exact hlt)⟩
        have hsz := (bigP_no HR.out).2 sp (List.mem_of_getElem? hsp)
        have hsa := HALL.out sp (List.mem_of_getElem? hsp)
        obtain ⟨kd, s, zs, ax, cx⟩ := sp
        obtain ⟨g, go, rfl, hc⟩ := (HSEE.out.kept HX.out.p4.below).play hsp
        have c0 := hc 0 (.int .i64 kd) rfl
        have c1 := hc 1 (.string s) rfl
        have c2 := hc 2 (.slice ax zs.length cx) rfl
        unfold Pq.ok at hsa
        dsimp only at hsz hsa
        rw [Nat.add_zero] at c0
        have HSA := Lib.hid hsa
        have HSZ := Lib.hid hsz
        clear hsp hsa hsz hc
        have hxa := zpq2 HX.out
        obtain ⟨p, hp⟩ : ∃ p, wr.heap.size = p := ⟨_, rfl⟩
        rw [hp] at hxa
        have HXA := Lib.hid hxa
        clear hxa
        by_cases k1 : kd = 1
        · subst kd
          by_cases hf : npc s.size ≤ r.cnt - r.used
          · skip
            have hfi := fun (W' : World) (L : List HP) (y : Sat W W' (isRing q b r :: L)) => HI.out.fits HSZ.out.1 y
            rw [decide_eq_true hf] at hfi
            have haa := fun (W' : World) (L : List HP) (y : Sat W W' (isRing q b r :: isDisk b D :: L)) => HI.out.appA hi40 HSZ.out.1 hf y
            have hab := fun (W' : World) (L : List HP) (y : Sat W W' (isMr m r :: isRef x D :: L)) => HI.out.appB hi40 HSZ.out.1 hf y
            have I2 := HI.out.append hi40 HSZ.out.1 (by have := HI.out.rc; omega)
            have hep : (rgApp r (npc s.size)).ep = r.ep := rfl
            obtain ⟨D2, hD2⟩ : ∃ D2, wroteR D r (cutL s r.ep r.seq) (npc s.size) = D2 := ⟨_, rfl⟩
            obtain ⟨r2, hr2⟩ : ∃ r2, rgApp r (npc s.size) = r2 := ⟨_, rfl⟩
            rw [hD2, hr2] at I2
            simp only [hD2, hr2] at haa hab
            rw [hr2] at hep
            have HFI := Lib.hid hfi
            have HAA := Lib.hid haa
            have HAB := Lib.hid hab
            have HI2 := Lib.hid I2
            have HEP := Lib.hid hep
            clear hfi haa hab I2 hep hD2 hr2
            go_wp2_with (first
              | (with_reducible refine wpList_store_pq HXA.out (⟨1, s, zs, ax, cx⟩ : Pq) ?_ ?_
                 exact ⟨rfl, _, _, rfl, rfl, rfl⟩
                 intro w2 hx2
                 clear c0 c1 c2
                 obtain ⟨t0, t1, t2⟩ := pq3 hx2
                 have HX2 := Lib.hid hx2
                 clear hx2 HXA)
              | (go_at_call 27; refine (HFI.out _ _ HX2.out.p1).mono ?_; rintro e w3 ⟨rfl, hx3⟩; clear t0 t1 t2; obtain ⟨t0, t1, t2⟩ := pq3 hx3.p1; have HX3 := Lib.hid hx3.p1; clear hx3 HX2)
              | (go_at_call 33; refine (HAB.out _ _ HX3.out.p4.p4).mono ?_; rintro e w4 ⟨rfl, hx4⟩; clear t0 t1 t2; obtain ⟨t0, t1, t2⟩ := pq3 hx4.p2; have HX4 := Lib.hid hx4.p2; clear hx4 HX3)
              | (go_at_call 26; refine (HAA.out _ _ HX4.out.p4.p4).mono ?_; rintro e w5 ⟨rfl, hx5⟩; clear t0 t1 t2; have HZ := Lib.hid hx5.p2.tail; clear hx5 HX4))

            have hz := HZ.out.drew
            have hu2 : r2.used ≤ C := HI2.out.ru
            have hC2 : C ≤ 20 := HI2.out.cC
            obtain ⟨-, -, m2, m3, m4, -⟩ := mr6 hz.p2
            obtain ⟨-, -, n2, n3, n4, -⟩ := mr6 hz.drew.p2
            have hnx := next_ok hz
            have hps := pos_ok hz
            have hrm := HI2.out.room hz
            have HNX := Lib.hid hnx
            have HPS := Lib.hid hps
            have HRM := Lib.hid hrm
            clear hnx hps hrm hz
            refine wp_region_planL [(0, true), (2, true), (3, true), (1, false), (4, true), (5, true), (6, true), (8, true), (9, true), (7, false), (10, true), (11, true), (12, true), (13, true), (15, true), (16, true), (17, true), (18, true), (14, false), (19, true), (20, true)]
              [(21, fun w1 => w1.cell? ⟨m, 2, none⟩ = some (.int .i64 r2.pos) ∧ w1.cell? ⟨m, 3, none⟩ = some (.int .i64 r2.used) ∧ w1.cell? ⟨m, 4, none⟩ = some (.int .i64 r2.seq))] (by kernel_rfl) (by kernel_rfl) (by intro c a d v w h; cases d <;> exact h) ?_ ?_
            · exact ⟨⟨m2, m3, m4⟩, trivial⟩
            simp only [planOps, List.getElem?_cons_zero, List.getElem?_cons_succ]
            iterate 3 (first | ((apply plan_pure rfl; (intro w1; go_simp; try go_bits); with_reducible rfl); try simp only [Act.put, List.setIfInBounds_toArray, List.set_cons_zero, List.set_cons_succ]) | ((refine' plan_load 0 rfl (by kernel_rfl) rfl ?_ ?_; rotate_left; (intro w1 hw1; go_simp; with_reducible rfl)); try simp only [Act.put, List.setIfInBounds_toArray, List.set_cons_zero, List.set_cons_succ]))
            refine plan_loud rfl (fun K hK => ?_); go_simp
            refine HNX.out.mono ?_
            rintro e w9 ⟨rfl, hw⟩
            subst w9
            dsimp only
            refine hK _ _ ⟨⟨m2, m3, m4⟩, trivial⟩ ?_
            clear hK K
            try simp only [Act.put, List.setIfInBounds_toArray, List.set_cons_zero, List.set_cons_succ]
            iterate 5 (first | ((apply plan_pure rfl; (intro w1; go_simp; try go_bits); with_reducible rfl); try simp only [Act.put, List.setIfInBounds_toArray, List.set_cons_zero, List.set_cons_succ]) | ((refine' plan_load 0 rfl (by kernel_rfl) rfl ?_ ?_; rotate_left; (intro w1 hw1; go_simp; with_reducible rfl)); try simp only [Act.put, List.setIfInBounds_toArray, List.set_cons_zero, List.set_cons_succ]))
            refine plan_loud rfl (fun K hK => ?_); go_simp
            refine HPS.out.mono ?_
            rintro e w9 ⟨rfl, hw⟩
            subst w9
            dsimp only
            refine hK _ _ ⟨⟨m2, m3, m4⟩, trivial⟩ ?_
            clear hK K
            try simp only [Act.put, List.setIfInBounds_toArray, List.set_cons_zero, List.set_cons_succ]
            iterate 8 (first | ((apply plan_pure rfl; (intro w1; go_simp; try go_bits); with_reducible rfl); try simp only [Act.put, List.setIfInBounds_toArray, List.set_cons_zero, List.set_cons_succ]) | ((refine' plan_load 0 rfl (by kernel_rfl) rfl ?_ ?_; rotate_left; (intro w1 hw1; go_simp; with_reducible rfl)); try simp only [Act.put, List.setIfInBounds_toArray, List.set_cons_zero, List.set_cons_succ]))
            refine plan_loud rfl (fun K hK => ?_); go_simp
            refine HRM.out.mono ?_
            rintro e w9 ⟨rfl, hw⟩
            subst w9
            dsimp only
            refine hK _ _ ⟨⟨n2, n3, n4⟩, trivial⟩ ?_
            clear hK K
            try simp only [Act.put, List.setIfInBounds_toArray, List.set_cons_zero, List.set_cons_succ]
            iterate 2 (first | ((apply plan_pure rfl; (intro w1; go_simp; try go_bits); with_reducible rfl); try simp only [Act.put, List.setIfInBounds_toArray, List.set_cons_zero, List.set_cons_succ]) | ((refine' plan_load 0 rfl (by kernel_rfl) rfl ?_ ?_; rotate_left; (intro w1 hw1; go_simp; with_reducible rfl)); try simp only [Act.put, List.setIfInBounds_toArray, List.set_cons_zero, List.set_cons_succ]))
            refine plan_nil ?_
            clear m2 m3 m4 n2 n3 n4
            go_wp2
            exact ⟨⟨k + 1, st, sq, si, r2, q, D2, by omega, HI2.out, by rw [HEP.out], rfl, rfl, rfl, rfl, by go_num, HZ.out.drew.drew⟩, by simp [intOf]; omega⟩
          · skip
            have hfi := fun (W' : World) (L : List HP) (y : Sat W W' (isRing q b r :: L)) => HI.out.fits HSZ.out.1 y
            rw [decide_eq_false hf] at hfi
            have haa := fun (W' : World) (L : List HP) (y : Sat W W' (isRing q b r :: isDisk b D :: L)) => HI.out.noA hi40 HSZ.out.1 hf y
            have hab := fun (W' : World) (L : List HP) (y : Sat W W' (isMr m r :: isRef x D :: L)) => HI.out.noB HSZ.out.1 hf y
            have I2 := HI.out.wait
            obtain ⟨D2, hD2⟩ : ∃ D2, D = D2 := ⟨_, rfl⟩
            obtain ⟨r2, hr2⟩ : ∃ r2, r = r2 := ⟨_, rfl⟩
            have hep : r2.ep = r.ep := by rw [hr2]
            rw [hD2, hr2] at I2
            have haa := fun (W' : World) (L : List HP) (y : Sat W W' (isRing q b r :: isDisk b D :: L)) => haa W' L y
            have hab := fun (W' : World) (L : List HP) (y : Sat W W' (isMr m r :: isRef x D :: L)) => hab W' L y
            subst hD2
            subst hr2
            have HFI := Lib.hid hfi
            have HAA := Lib.hid haa
            have HAB := Lib.hid hab
            have HI2 := Lib.hid I2
            have HEP := Lib.hid hep
            clear hfi haa hab I2 hep 
            go_wp2_with (first
              | (with_reducible refine wpList_store_pq HXA.out (⟨1, s, zs, ax, cx⟩ : Pq) ?_ ?_
                 exact ⟨rfl, _, _, rfl, rfl, rfl⟩
                 intro w2 hx2
                 clear c0 c1 c2
                 obtain ⟨t0, t1, t2⟩ := pq3 hx2
                 have HX2 := Lib.hid hx2
                 clear hx2 HXA)
              | (go_at_call 27; refine (HFI.out _ _ HX2.out.p1).mono ?_; rintro e w3 ⟨rfl, hx3⟩; clear t0 t1 t2; obtain ⟨t0, t1, t2⟩ := pq3 hx3.p1; have HX3 := Lib.hid hx3.p1; clear hx3 HX2)
              | (go_at_call 33; refine (HAB.out _ _ HX3.out.p4.p4).mono ?_; rintro e w4 ⟨rfl, hx4⟩; clear t0 t1 t2; obtain ⟨t0, t1, t2⟩ := pq3 hx4.p2; have HX4 := Lib.hid hx4.p2; clear hx4 HX3)
              | (go_at_call 26; refine (HAA.out _ _ HX4.out.p4.p4).mono ?_; rintro e w5 ⟨rfl, hx5⟩; clear t0 t1 t2; have HZ := Lib.hid hx5.p2.tail; clear hx5 HX4))

            have hz := HZ.out.drew
            have hu2 : r.used ≤ C := HI2.out.ru
            have hC2 : C ≤ 20 := HI2.out.cC
            obtain ⟨-, -, m2, m3, m4, -⟩ := mr6 hz.p2
            obtain ⟨-, -, n2, n3, n4, -⟩ := mr6 hz.drew.p2
            have hnx := next_ok hz
            have hps := pos_ok hz
            have hrm := HI2.out.room hz
            have HNX := Lib.hid hnx
            have HPS := Lib.hid hps
            have HRM := Lib.hid hrm
            clear hnx hps hrm hz
            refine wp_region_planL [(0, true), (2, true), (3, true), (1, false), (4, true), (5, true), (6, true), (8, true), (9, true), (7, false), (10, true), (11, true), (12, true), (13, true), (15, true), (16, true), (17, true), (18, true), (14, false), (19, true), (20, true)]
              [(21, fun w1 => w1.cell? ⟨m, 2, none⟩ = some (.int .i64 r.pos) ∧ w1.cell? ⟨m, 3, none⟩ = some (.int .i64 r.used) ∧ w1.cell? ⟨m, 4, none⟩ = some (.int .i64 r.seq))] (by kernel_rfl) (by kernel_rfl) (by intro c a d v w h; cases d <;> exact h) ?_ ?_
            · exact ⟨⟨m2, m3, m4⟩, trivial⟩
            simp only [planOps, List.getElem?_cons_zero, List.getElem?_cons_succ]
            iterate 3 (first | ((apply plan_pure rfl; (intro w1; go_simp; try go_bits); with_reducible rfl); try simp only [Act.put, List.setIfInBounds_toArray, List.set_cons_zero, List.set_cons_succ]) | ((refine' plan_load 0 rfl (by kernel_rfl) rfl ?_ ?_; rotate_left; (intro w1 hw1; go_simp; with_reducible rfl)); try simp only [Act.put, List.setIfInBounds_toArray, List.set_cons_zero, List.set_cons_succ]))
            refine plan_loud rfl (fun K hK => ?_); go_simp
            refine HNX.out.mono ?_
            rintro e w9 ⟨rfl, hw⟩
            subst w9
            dsimp only
            refine hK _ _ ⟨⟨m2, m3, m4⟩, trivial⟩ ?_
            clear hK K
            try simp only [Act.put, List.setIfInBounds_toArray, List.set_cons_zero, List.set_cons_succ]
            iterate 5 (first | ((apply plan_pure rfl; (intro w1; go_simp; try go_bits); with_reducible rfl); try simp only [Act.put, List.setIfInBounds_toArray, List.set_cons_zero, List.set_cons_succ]) | ((refine' plan_load 0 rfl (by kernel_rfl) rfl ?_ ?_; rotate_left; (intro w1 hw1; go_simp; with_reducible rfl)); try simp only [Act.put, List.setIfInBounds_toArray, List.set_cons_zero, List.set_cons_succ]))
            refine plan_loud rfl (fun K hK => ?_); go_simp
            refine HPS.out.mono ?_
            rintro e w9 ⟨rfl, hw⟩
            subst w9
            dsimp only
            refine hK _ _ ⟨⟨m2, m3, m4⟩, trivial⟩ ?_
            clear hK K
            try simp only [Act.put, List.setIfInBounds_toArray, List.set_cons_zero, List.set_cons_succ]
            iterate 8 (first | ((apply plan_pure rfl; (intro w1; go_simp; try go_bits); with_reducible rfl); try simp only [Act.put, List.setIfInBounds_toArray, List.set_cons_zero, List.set_cons_succ]) | ((refine' plan_load 0 rfl (by kernel_rfl) rfl ?_ ?_; rotate_left; (intro w1 hw1; go_simp; with_reducible rfl)); try simp only [Act.put, List.setIfInBounds_toArray, List.set_cons_zero, List.set_cons_succ]))
            refine plan_loud rfl (fun K hK => ?_); go_simp
            refine HRM.out.mono ?_
            rintro e w9 ⟨rfl, hw⟩
            subst w9
            dsimp only
            refine hK _ _ ⟨⟨n2, n3, n4⟩, trivial⟩ ?_
            clear hK K
            try simp only [Act.put, List.setIfInBounds_toArray, List.set_cons_zero, List.set_cons_succ]
            iterate 2 (first | ((apply plan_pure rfl; (intro w1; go_simp; try go_bits); with_reducible rfl); try simp only [Act.put, List.setIfInBounds_toArray, List.set_cons_zero, List.set_cons_succ]) | ((refine' plan_load 0 rfl (by kernel_rfl) rfl ?_ ?_; rotate_left; (intro w1 hw1; go_simp; with_reducible rfl)); try simp only [Act.put, List.setIfInBounds_toArray, List.set_cons_zero, List.set_cons_succ]))
            refine plan_nil ?_
            clear m2 m3 m4 n2 n3 n4
            go_wp2
            exact ⟨⟨k + 1, st, sq, si, r, q, D, by omega, HI2.out, rfl, rfl, rfl, rfl, rfl, by go_num, HZ.out.drew.drew⟩, by simp [intOf]; omega⟩
        by_cases k2 : kd = 2
        · subst kd
          have hba := fun (W' : World) (L : List HP) (y : Sat W W' (isDisk b D :: L)) => barrier_ok y HI.out.fine.run.ok (by have := HI.out.fine.run.b; omega)
          have hbb := fun (W' : World) (L : List HP) (y : Sat W W' (isRef x D :: L)) => refbarrier_ok y (HI.out.fine.run.made (by omega)) HI.out.fine.run.ok (by have := HI.out.fine.run.b; omega)
          have I2 := HI.out.barrier hi40
          obtain ⟨D2, hD2⟩ : ∃ D2, barrierD D = D2 := ⟨_, rfl⟩
          rw [hD2] at I2
          simp only [hD2] at hba hbb
          have HBA := Lib.hid hba
          have HBB := Lib.hid hbb
          have HI2 := Lib.hid I2
          clear hba hbb I2 hD2
          go_wp2_with (first
            | (with_reducible refine wpList_store_pq HXA.out (⟨2, s, zs, ax, cx⟩ : Pq) ?_ ?_
               exact ⟨rfl, _, _, rfl, rfl, rfl⟩
               intro w2 hx2
               clear c0 c1 c2
               obtain ⟨t0, t1, t2⟩ := pq3 hx2
               have HX2 := Lib.hid hx2
               clear hx2 HXA)
            | (go_at_call 25; refine (HBA.out _ _ HX2.out.p2).mono ?_; rintro e w3 ⟨rfl, hx3⟩; clear t0 t1 t2; have HX3 := Lib.hid hx3; clear hx3 HX2)
            | (go_at_call 34; refine (HBB.out _ _ HX3.out.p4).mono ?_; rintro e w4 ⟨rfl, hx4⟩; have HZ := Lib.hid hx4.p2.tail.p3.p2.p3; clear hx4 HX3))
          have hz := HZ.out.drew
          have hu2 : r.used ≤ C := HI2.out.ru
          have hC2 : C ≤ 20 := HI2.out.cC
          obtain ⟨-, -, m2, m3, m4, -⟩ := mr6 hz.p2
          obtain ⟨-, -, n2, n3, n4, -⟩ := mr6 hz.drew.p2
          have hnx := next_ok hz
          have hps := pos_ok hz
          have hrm := HI2.out.room hz
          have HNX := Lib.hid hnx
          have HPS := Lib.hid hps
          have HRM := Lib.hid hrm
          clear hnx hps hrm hz
          refine wp_region_planL [(0, true), (2, true), (3, true), (1, false), (4, true), (5, true), (6, true), (8, true), (9, true), (7, false), (10, true), (11, true), (12, true), (13, true), (15, true), (16, true), (17, true), (18, true), (14, false), (19, true), (20, true)]
            [(21, fun w1 => w1.cell? ⟨m, 2, none⟩ = some (.int .i64 r.pos) ∧ w1.cell? ⟨m, 3, none⟩ = some (.int .i64 r.used) ∧ w1.cell? ⟨m, 4, none⟩ = some (.int .i64 r.seq))] (by kernel_rfl) (by kernel_rfl) (by intro c a d v w h; cases d <;> exact h) ?_ ?_
          · exact ⟨⟨m2, m3, m4⟩, trivial⟩
          simp only [planOps, List.getElem?_cons_zero, List.getElem?_cons_succ]
          iterate 3 (first | ((apply plan_pure rfl; (intro w1; go_simp; try go_bits); with_reducible rfl); try simp only [Act.put, List.setIfInBounds_toArray, List.set_cons_zero, List.set_cons_succ]) | ((refine' plan_load 0 rfl (by kernel_rfl) rfl ?_ ?_; rotate_left; (intro w1 hw1; go_simp; with_reducible rfl)); try simp only [Act.put, List.setIfInBounds_toArray, List.set_cons_zero, List.set_cons_succ]))
          refine plan_loud rfl (fun K hK => ?_); go_simp
          refine HNX.out.mono ?_
          rintro e w9 ⟨rfl, hw⟩
          subst w9
          dsimp only
          refine hK _ _ ⟨⟨m2, m3, m4⟩, trivial⟩ ?_
          clear hK K
          try simp only [Act.put, List.setIfInBounds_toArray, List.set_cons_zero, List.set_cons_succ]
          iterate 5 (first | ((apply plan_pure rfl; (intro w1; go_simp; try go_bits); with_reducible rfl); try simp only [Act.put, List.setIfInBounds_toArray, List.set_cons_zero, List.set_cons_succ]) | ((refine' plan_load 0 rfl (by kernel_rfl) rfl ?_ ?_; rotate_left; (intro w1 hw1; go_simp; with_reducible rfl)); try simp only [Act.put, List.setIfInBounds_toArray, List.set_cons_zero, List.set_cons_succ]))
          refine plan_loud rfl (fun K hK => ?_); go_simp
          refine HPS.out.mono ?_
          rintro e w9 ⟨rfl, hw⟩
          subst w9
          dsimp only
          refine hK _ _ ⟨⟨m2, m3, m4⟩, trivial⟩ ?_
          clear hK K
          try simp only [Act.put, List.setIfInBounds_toArray, List.set_cons_zero, List.set_cons_succ]
          iterate 8 (first | ((apply plan_pure rfl; (intro w1; go_simp; try go_bits); with_reducible rfl); try simp only [Act.put, List.setIfInBounds_toArray, List.set_cons_zero, List.set_cons_succ]) | ((refine' plan_load 0 rfl (by kernel_rfl) rfl ?_ ?_; rotate_left; (intro w1 hw1; go_simp; with_reducible rfl)); try simp only [Act.put, List.setIfInBounds_toArray, List.set_cons_zero, List.set_cons_succ]))
          refine plan_loud rfl (fun K hK => ?_); go_simp
          refine HRM.out.mono ?_
          rintro e w9 ⟨rfl, hw⟩
          subst w9
          dsimp only
          refine hK _ _ ⟨⟨n2, n3, n4⟩, trivial⟩ ?_
          clear hK K
          try simp only [Act.put, List.setIfInBounds_toArray, List.set_cons_zero, List.set_cons_succ]
          iterate 2 (first | ((apply plan_pure rfl; (intro w1; go_simp; try go_bits); with_reducible rfl); try simp only [Act.put, List.setIfInBounds_toArray, List.set_cons_zero, List.set_cons_succ]) | ((refine' plan_load 0 rfl (by kernel_rfl) rfl ?_ ?_; rotate_left; (intro w1 hw1; go_simp; with_reducible rfl)); try simp only [Act.put, List.setIfInBounds_toArray, List.set_cons_zero, List.set_cons_succ]))
          refine plan_nil ?_
          clear m2 m3 m4 n2 n3 n4
          go_wp2
          exact ⟨⟨k + 1, st, sq, si, r, q, D2, by omega, HI2.out, rfl, rfl, rfl, rfl, rfl, by go_num, HZ.out.drew.drew⟩, by simp [intOf]; omega⟩
        by_cases k3 : kd = 3
        · subst kd
          have hba := fun (W' : World) (L : List HP) (y : Sat W W' (isDisk b D :: L)) => barrier_ok y HI.out.fine.run.ok (by have := HI.out.fine.run.b; omega)
          have hbb := fun (W' : World) (L : List HP) (y : Sat W W' (isRef x D :: L)) => refbarrier_ok y (HI.out.fine.run.made (by omega)) HI.out.fine.run.ok (by have := HI.out.fine.run.b; omega)
          have I2 := HI.out.clear hi40
          obtain ⟨D2, hD2⟩ : ∃ D2, barrierD D = D2 := ⟨_, rfl⟩
          rw [hD2] at I2
          simp only [hD2] at hba hbb
          have HBA := Lib.hid hba
          have HBB := Lib.hid hbb
          have HI2 := Lib.hid I2
          clear hba hbb I2 hD2
          have hcl := fun (W' : World) (L : List HP) (y : Sat W W' (isRing q b r :: L)) => clear_ok y
          obtain ⟨r2, hr2⟩ : ∃ r2, ({ r with used := 0 } : Rg) = r2 := ⟨_, rfl⟩
          have HCL := Lib.hid hcl
          clear hcl
          go_wp2_with (first
            | (with_reducible refine wpList_store_pq HXA.out (⟨3, s, zs, ax, cx⟩ : Pq) ?_ ?_
               exact ⟨rfl, _, _, rfl, rfl, rfl⟩
               intro w2 hx2
               clear c0 c1 c2
               obtain ⟨t0, t1, t2⟩ := pq3 hx2
               have HX2 := Lib.hid hx2
               clear hx2 HXA)
            | (go_at_call 25; refine (HBA.out _ _ HX2.out.p2).mono ?_; rintro e w3 ⟨rfl, hx3⟩; clear t0 t1 t2; have HX3 := Lib.hid hx3; clear hx3 HX2)
            | (go_at_call 34; refine (HBB.out _ _ HX3.out.p4).mono ?_; rintro e w4 ⟨rfl, hx4⟩; have HX4 := Lib.hid hx4.p2.tail.p3.p2.p3; clear hx4 HX3)
            | (go_at_call 23; refine (HCL.out _ _ HX4.out).mono ?_; rintro e w5 ⟨rfl, hx5⟩; obtain ⟨-, -, -, m3, -, -⟩ := mr6 hx5.p2; have f3 := frozen_blk hx5.p2.at 3; have HX5 := Lib.hid hx5; clear hx5 HX4))
          have hx6 := ((HX5.out.p2.setCell 3 (.int .i64 0)).head (A' := isMr m ({ r with used := 0 } : Rg)) (fun kk hk => hk)).p2.p2
          have e2 : r.pos = r2.pos := by rw [← hr2]
          have e3 : r.seq = r2.seq := by rw [← hr2]
          have e4 : r.ep = r2.ep := by rw [← hr2]
          rw [hr2] at hx6
          have HI3 := HI2.out
          rw [hr2] at HI3
          clear HI2
          have HI2 := Lib.hid HI3
          clear HI3
          have HZ := Lib.hid hx6.drew
          obtain ⟨-, -, m2, -, m4, -⟩ := mr6 hx6.drew.p2
          have HE4 := Lib.hid e4
          rw [← e2] at m2
          rw [← e3] at m4
          clear hx6 m3 f3 HX5 e2 e3 e4 hr2
          refine wp_region_planL [(0, true), (1, true), (2, true), (3, true), (4, true), (5, true), (6, true), (7, true)]
            [(8, fun w1 => w1.cell? ⟨m, 2, none⟩ = some (.int .i64 r.pos) ∧ w1.cell? ⟨m, 4, none⟩ = some (.int .i64 r.seq))] (by kernel_rfl) (by kernel_rfl) (by intro c a d v w h; cases d <;> exact h) ?_ ?_
          · exact ⟨⟨m2, m4⟩, trivial⟩
          simp only [planOps, List.getElem?_cons_zero, List.getElem?_cons_succ]
          iterate 8 (first | ((apply plan_pure rfl; (intro w1; go_simp; try go_bits); with_reducible rfl); try simp only [Act.put, List.setIfInBounds_toArray, List.set_cons_zero, List.set_cons_succ]) | ((refine' plan_load 0 rfl (by kernel_rfl) rfl ?_ ?_; rotate_left; (intro w1 hw1; go_simp; with_reducible rfl)); try simp only [Act.put, List.setIfInBounds_toArray, List.set_cons_zero, List.set_cons_succ]))
          refine plan_nil ?_
          clear m2 m4
          go_wp2
          have hz := HZ.out.drew
          have hu2 : r2.used ≤ C := HI2.out.ru
          have hC2 : C ≤ 20 := HI2.out.cC
          obtain ⟨-, -, m2, m3, m4, -⟩ := mr6 hz.p2
          obtain ⟨-, -, n2, n3, n4, -⟩ := mr6 hz.drew.p2
          have hnx := next_ok hz
          have hps := pos_ok hz
          have hrm := HI2.out.room hz
          have HNX := Lib.hid hnx
          have HPS := Lib.hid hps
          have HRM := Lib.hid hrm
          clear hnx hps hrm hz
          refine wp_region_planL [(0, true), (2, true), (3, true), (1, false), (4, true), (5, true), (6, true), (8, true), (9, true), (7, false), (10, true), (11, true), (12, true), (13, true), (15, true), (16, true), (17, true), (18, true), (14, false), (19, true), (20, true)]
            [(21, fun w1 => w1.cell? ⟨m, 2, none⟩ = some (.int .i64 r2.pos) ∧ w1.cell? ⟨m, 3, none⟩ = some (.int .i64 r2.used) ∧ w1.cell? ⟨m, 4, none⟩ = some (.int .i64 r2.seq))] (by kernel_rfl) (by kernel_rfl) (by intro c a d v w h; cases d <;> exact h) ?_ ?_
          · exact ⟨⟨m2, m3, m4⟩, trivial⟩
          simp only [planOps, List.getElem?_cons_zero, List.getElem?_cons_succ]
          iterate 3 (first | ((apply plan_pure rfl; (intro w1; go_simp; try go_bits); with_reducible rfl); try simp only [Act.put, List.setIfInBounds_toArray, List.set_cons_zero, List.set_cons_succ]) | ((refine' plan_load 0 rfl (by kernel_rfl) rfl ?_ ?_; rotate_left; (intro w1 hw1; go_simp; with_reducible rfl)); try simp only [Act.put, List.setIfInBounds_toArray, List.set_cons_zero, List.set_cons_succ]))
          refine plan_loud rfl (fun K hK => ?_); go_simp
          refine HNX.out.mono ?_
          rintro e w9 ⟨rfl, hw⟩
          subst w9
          dsimp only
          refine hK _ _ ⟨⟨m2, m3, m4⟩, trivial⟩ ?_
          clear hK K
          try simp only [Act.put, List.setIfInBounds_toArray, List.set_cons_zero, List.set_cons_succ]
          iterate 5 (first | ((apply plan_pure rfl; (intro w1; go_simp; try go_bits); with_reducible rfl); try simp only [Act.put, List.setIfInBounds_toArray, List.set_cons_zero, List.set_cons_succ]) | ((refine' plan_load 0 rfl (by kernel_rfl) rfl ?_ ?_; rotate_left; (intro w1 hw1; go_simp; with_reducible rfl)); try simp only [Act.put, List.setIfInBounds_toArray, List.set_cons_zero, List.set_cons_succ]))
          refine plan_loud rfl (fun K hK => ?_); go_simp
          refine HPS.out.mono ?_
          rintro e w9 ⟨rfl, hw⟩
          subst w9
          dsimp only
          refine hK _ _ ⟨⟨m2, m3, m4⟩, trivial⟩ ?_
          clear hK K
          try simp only [Act.put, List.setIfInBounds_toArray, List.set_cons_zero, List.set_cons_succ]
          iterate 8 (first | ((apply plan_pure rfl; (intro w1; go_simp; try go_bits); with_reducible rfl); try simp only [Act.put, List.setIfInBounds_toArray, List.set_cons_zero, List.set_cons_succ]) | ((refine' plan_load 0 rfl (by kernel_rfl) rfl ?_ ?_; rotate_left; (intro w1 hw1; go_simp; with_reducible rfl)); try simp only [Act.put, List.setIfInBounds_toArray, List.set_cons_zero, List.set_cons_succ]))
          refine plan_loud rfl (fun K hK => ?_); go_simp
          refine HRM.out.mono ?_
          rintro e w9 ⟨rfl, hw⟩
          subst w9
          dsimp only
          refine hK _ _ ⟨⟨n2, n3, n4⟩, trivial⟩ ?_
          clear hK K
          try simp only [Act.put, List.setIfInBounds_toArray, List.set_cons_zero, List.set_cons_succ]
          iterate 2 (first | ((apply plan_pure rfl; (intro w1; go_simp; try go_bits); with_reducible rfl); try simp only [Act.put, List.setIfInBounds_toArray, List.set_cons_zero, List.set_cons_succ]) | ((refine' plan_load 0 rfl (by kernel_rfl) rfl ?_ ?_; rotate_left; (intro w1 hw1; go_simp; with_reducible rfl)); try simp only [Act.put, List.setIfInBounds_toArray, List.set_cons_zero, List.set_cons_succ]))
          refine plan_nil ?_
          clear m2 m3 m4 n2 n3 n4
          go_wp2
          exact ⟨⟨k + 1, r.pos, r.seq, r.ep, r2, q, D2, by omega, HI2.out, by rw [HE4.out], rfl, rfl, rfl, rfl, by go_num, HZ.out.drew.drew⟩, by simp [intOf]; omega⟩
        by_cases k4 : kd = 4
        · subst kd
          obtain ⟨D2, hD2⟩ : ∃ D2, crashD D zs = D2 := ⟨_, rfl⟩
          have hfd : Fine 25 D2 (50 * k) := by rw [← hD2]; exact (HI.out.fine.crash (by omega) zs).1
          have hoa := fun (W' : World) (L : List HP) (y : Sat W W' (isDisk b D2 :: L)) => HI.out.openA hi40 hfd y
          have hob := fun (W' : World) (L : List HP) (y : Sat W W' (isRef x D2 :: L)) => HI.out.openB hi40 hfd y
          have I2 := HI.out.open hfd
          have hep : (openR D2 FR C st sq si (r.ep + 1)).ep = r.ep + 1 := rfl
          have htl := (openT_len (D := D2) (fr := FR) (cn := C) (po := st) (sq := sq) (si := si) (ep := r.ep + 1)).2
          obtain ⟨r2, hr2⟩ : ∃ r2, openR D2 FR C st sq si (r.ep + 1) = r2 := ⟨_, rfl⟩
          obtain ⟨T, hT⟩ : ∃ T, openT D2 FR C st sq si (r.ep + 1) = T := ⟨_, rfl⟩
          rw [hr2] at I2 hep
          rw [hT] at htl
          simp only [hr2, hT] at hoa hob
          obtain ⟨t, hTl⟩ : ∃ t, T.length = t := ⟨_, rfl⟩
          have hsame := fun (W' : World) (a2 a3 : Option Addr) (c2 c3 : Nat) (h1 : Sees W' a2 (sects (T.map joined))) (h2 : Sees W' a3 (sects (T.map joined))) => sameN_ok (c := c2) (d := c3) h1 h2 (by rw [List.length_map]; have := HI.out.cC; omega) (by rw [List.length_map]; have := HI.out.cC; omega)
          rw [List.length_map, hTl, decide_eq_true (rfl : T.map joined = T.map joined)] at hsame
          rw [hTl] at hoa hob
          have HOA := Lib.hid hoa
          have HOB := Lib.hid hob
          have HI2 := Lib.hid I2
          have HEP := Lib.hid hep
          have HSAME := Lib.hid hsame
          have hca := fun (W' : World) (L : List HP) (a : Option Addr) (c : Nat) (y : Sat W W' (isDisk b D :: L)) (h : ∀ W', Sat W W' L → SeesI W' a zs) => crash_ok (c := c) y HI.out.fine.run.ok h (by have := HSZ.out.2; omega)
          have hcb := fun (W' : World) (L : List HP) (y : Sat W W' (isRef x D :: L)) (h : ∀ W', Sat W W' L → SeesI W' ax zs) => refcrash_ok (c := cx) y (HI.out.fine.run.made (by omega)) HI.out.fine.run.ok h (by have := HSZ.out.2; omega)
          simp only [hD2] at hca hcb
          have HCA := Lib.hid hca
          have HCB := Lib.hid hcb
          clear hca hcb hD2
          clear hoa hob I2 hep hsame hr2 hT hTl hfd htl
          go_wp2_with (first
            | (with_reducible refine wpList_store_pq HXA.out (⟨4, s, zs, ax, cx⟩ : Pq) ?_ ?_
               exact ⟨rfl, _, _, rfl, rfl, rfl⟩
               intro w2 hx2
               clear c0 c1 c2
               obtain ⟨t0, t1, t2⟩ := pq3 hx2
               have t2a := (pq3 (hx2.alloc (.cells #[] 3)).p1).2.2
               have HX2 := Lib.hid hx2
               clear hx2 HXA)
            | (at_builtin; go_loud (refine wpList_appI rfl _ _ rfl (HX2.out.p2.rowEmpty 3 1 rfl) (HSA.out.1.kept (HX2.out.p2.rowEmpty 3 1 rfl).p6.below) (by have := HSZ.out.2; omega) rfl rfl ?_; intro v' w3 hx3; clear t2a; obtain ⟨a', c', rfl, -⟩ := rowSlice hx3; have HX3 := Lib.hid hx3.p1; clear hx3))
            | (go_at_call 29; refine (HCA.out _ _ _ _ HX3.out (fun W' hW => seesI_own hW)).mono ?_; rintro e w4 ⟨rfl, hx4⟩; clear t0 t1 t2; obtain ⟨t0, t1, t2⟩ := pq3 hx4.p2; have HX4 := Lib.hid hx4; clear hx4 HX3)
            | (go_at_call 35; refine (HCB.out _ _ HX4.out.p5 (fun W' hW => HSA.out.1.kept hW.p5.below)).mono ?_; rintro e w5 ⟨rfl, hx5⟩; clear t0 t1 t2; have HX5 := Lib.hid hx5.p2.tail.p2.tail.p3.p2.p3; clear hx5 HX4)
            | (go_at_call 18; refine (HOA.out _ _ HX5.out.p1).mono ?_; rintro e w6 ⟨q2, v2, rfl, hx6⟩; obtain ⟨a2, c2, rfl, -⟩ := rowSlice hx6.p2; have HX6 := Lib.hid hx6; clear hx6 HX5)
            | (go_at_call 32; unfold Rg.mr at *; refine (HOB.out _ _ HX6.out.p5).mono ?_; rintro e w7 ⟨v3, rfl, hx7⟩; obtain ⟨a3, c3, rfl, -⟩ := rowSlice hx7.p1; obtain ⟨h, hh⟩ : ∃ h, w7.heap.size = h := ⟨_, rfl⟩; have hx7 := zmr hx7; rw [hh] at hx7; have HX7 := Lib.hid hx7; clear hx7 HX6)
            | (with_reducible refine wpList_store_mr HX7.out r2 ?_ ?_; exact ⟨rfl, _, _, rfl, rfl, rfl⟩; intro w8 hx8; have HX8 := Lib.hid hx8; clear hx8 HX7)
            | (go_at_call 30; refine (HSAME.out _ _ _ _ _ (row_sees HX8.out.p5) (row_sees HX8.out.p2)).mono ?_; rintro e w9 ⟨rfl, hb⟩; have HX9 := Lib.hid (HX8.out.ofBelow hb).drew; clear hb HX8))
          have h6 := mr6 HX9.out
          refine wp_region_planL [(0, true), (1, true), (2, true), (3, false)]
            [(3, fun w1 => w1.cell? ⟨h, 0, none⟩ = some (.int .i64 r2.fro) ∧ w1.cell? ⟨h, 1, none⟩ = some (.int .i64 r2.cnt) ∧ w1.cell? ⟨h, 2, none⟩ = some (.int .i64 r2.pos) ∧ w1.cell? ⟨h, 3, none⟩ = some (.int .i64 r2.used) ∧ w1.cell? ⟨h, 4, none⟩ = some (.int .i64 r2.seq) ∧ w1.cell? ⟨h, 5, none⟩ = some (.int .i64 r2.ep))] (by kernel_rfl) (by kernel_rfl) (by intro c a d v w h; cases d <;> exact h) ?_ ?_
          · exact ⟨h6, trivial⟩
          simp only [planOps, List.getElem?_cons_zero, List.getElem?_cons_succ]
          iterate 3 (first | ((apply plan_pure rfl; (intro w1; go_simp; try go_bits); with_reducible rfl); try simp only [Act.put, List.setIfInBounds_toArray, List.set_cons_zero, List.set_cons_succ]) | ((refine' plan_load 0 rfl (by kernel_rfl) rfl ?_ ?_; rotate_left; (intro w1 hw1; go_simp; with_reducible rfl)); try simp only [Act.put, List.setIfInBounds_toArray, List.set_cons_zero, List.set_cons_succ]))
          refine plan_loud rfl (fun K hK => ?_)
          refine wp_store_mr (sat_p7 HX9.out) r2 ⟨_, _, rfl, rfl, rfl⟩ ?_
          intro w10 hx10
          have HZ := Lib.hid hx10.p1.tail.p2.tail.p4.tail.p4.tail.p3.p3
          clear hx10 HX9 h6
          refine hK _ _ trivial (plan_nil ?_)
          clear hK K
          go_wp2
          have hz := HZ.out.drew
          have hu2 : r2.used ≤ C := HI2.out.ru
          have hC2 : C ≤ 20 := HI2.out.cC
          obtain ⟨-, -, m2, m3, m4, -⟩ := mr6 hz.p2
          obtain ⟨-, -, n2, n3, n4, -⟩ := mr6 hz.drew.p2
          have hnx := next_ok hz
          have hps := pos_ok hz
          have hrm := HI2.out.room hz
          have HNX := Lib.hid hnx
          have HPS := Lib.hid hps
          have HRM := Lib.hid hrm
          clear hnx hps hrm hz
          refine wp_region_planL [(0, true), (2, true), (3, true), (1, false), (4, true), (5, true), (6, true), (8, true), (9, true), (7, false), (10, true), (11, true), (12, true), (13, true), (15, true), (16, true), (17, true), (18, true), (14, false), (19, true), (20, true)]
            [(21, fun w1 => w1.cell? ⟨m, 2, none⟩ = some (.int .i64 r2.pos) ∧ w1.cell? ⟨m, 3, none⟩ = some (.int .i64 r2.used) ∧ w1.cell? ⟨m, 4, none⟩ = some (.int .i64 r2.seq))] (by kernel_rfl) (by kernel_rfl) (by intro c a d v w h; cases d <;> exact h) ?_ ?_
          · exact ⟨⟨m2, m3, m4⟩, trivial⟩
          simp only [planOps, List.getElem?_cons_zero, List.getElem?_cons_succ]
          iterate 3 (first | ((apply plan_pure rfl; (intro w1; go_simp; try go_bits); with_reducible rfl); try simp only [Act.put, List.setIfInBounds_toArray, List.set_cons_zero, List.set_cons_succ]) | ((refine' plan_load 0 rfl (by kernel_rfl) rfl ?_ ?_; rotate_left; (intro w1 hw1; go_simp; with_reducible rfl)); try simp only [Act.put, List.setIfInBounds_toArray, List.set_cons_zero, List.set_cons_succ]))
          refine plan_loud rfl (fun K hK => ?_); go_simp
          refine HNX.out.mono ?_
          rintro e w9 ⟨rfl, hw⟩
          subst w9
          dsimp only
          refine hK _ _ ⟨⟨m2, m3, m4⟩, trivial⟩ ?_
          clear hK K
          try simp only [Act.put, List.setIfInBounds_toArray, List.set_cons_zero, List.set_cons_succ]
          iterate 5 (first | ((apply plan_pure rfl; (intro w1; go_simp; try go_bits); with_reducible rfl); try simp only [Act.put, List.setIfInBounds_toArray, List.set_cons_zero, List.set_cons_succ]) | ((refine' plan_load 0 rfl (by kernel_rfl) rfl ?_ ?_; rotate_left; (intro w1 hw1; go_simp; with_reducible rfl)); try simp only [Act.put, List.setIfInBounds_toArray, List.set_cons_zero, List.set_cons_succ]))
          refine plan_loud rfl (fun K hK => ?_); go_simp
          refine HPS.out.mono ?_
          rintro e w9 ⟨rfl, hw⟩
          subst w9
          dsimp only
          refine hK _ _ ⟨⟨m2, m3, m4⟩, trivial⟩ ?_
          clear hK K
          try simp only [Act.put, List.setIfInBounds_toArray, List.set_cons_zero, List.set_cons_succ]
          iterate 8 (first | ((apply plan_pure rfl; (intro w1; go_simp; try go_bits); with_reducible rfl); try simp only [Act.put, List.setIfInBounds_toArray, List.set_cons_zero, List.set_cons_succ]) | ((refine' plan_load 0 rfl (by kernel_rfl) rfl ?_ ?_; rotate_left; (intro w1 hw1; go_simp; with_reducible rfl)); try simp only [Act.put, List.setIfInBounds_toArray, List.set_cons_zero, List.set_cons_succ]))
          refine plan_loud rfl (fun K hK => ?_); go_simp
          refine HRM.out.mono ?_
          rintro e w9 ⟨rfl, hw⟩
          subst w9
          dsimp only
          refine hK _ _ ⟨⟨n2, n3, n4⟩, trivial⟩ ?_
          clear hK K
          try simp only [Act.put, List.setIfInBounds_toArray, List.set_cons_zero, List.set_cons_succ]
          iterate 2 (first | ((apply plan_pure rfl; (intro w1; go_simp; try go_bits); with_reducible rfl); try simp only [Act.put, List.setIfInBounds_toArray, List.set_cons_zero, List.set_cons_succ]) | ((refine' plan_load 0 rfl (by kernel_rfl) rfl ?_ ?_; rotate_left; (intro w1 hw1; go_simp; with_reducible rfl)); try simp only [Act.put, List.setIfInBounds_toArray, List.set_cons_zero, List.set_cons_succ]))
          refine plan_nil ?_
          clear m2 m3 m4 n2 n3 n4
          go_wp2
          exact ⟨⟨k + 1, st, sq, si, r2, q2, D2, by omega, HI2.out, by rw [HEP.out], rfl, rfl, rfl, rfl, by go_num, HZ.out.drew.drew⟩, by simp [intOf]; omega⟩
        · skip
          obtain ⟨D2, hD2⟩ : ∃ D2, D = D2 := ⟨_, rfl⟩
          have hfd : Fine 25 D2 (50 * k) := by rw [← hD2]; exact HI.out.fine
          have hoa := fun (W' : World) (L : List HP) (y : Sat W W' (isDisk b D2 :: L)) => HI.out.openA hi40 hfd y
          have hob := fun (W' : World) (L : List HP) (y : Sat W W' (isRef x D2 :: L)) => HI.out.openB hi40 hfd y
          have I2 := HI.out.open hfd
          have hep : (openR D2 FR C st sq si (r.ep + 1)).ep = r.ep + 1 := rfl
          have htl := (openT_len (D := D2) (fr := FR) (cn := C) (po := st) (sq := sq) (si := si) (ep := r.ep + 1)).2
          obtain ⟨r2, hr2⟩ : ∃ r2, openR D2 FR C st sq si (r.ep + 1) = r2 := ⟨_, rfl⟩
          obtain ⟨T, hT⟩ : ∃ T, openT D2 FR C st sq si (r.ep + 1) = T := ⟨_, rfl⟩
          rw [hr2] at I2 hep
          rw [hT] at htl
          simp only [hr2, hT] at hoa hob
          obtain ⟨t, hTl⟩ : ∃ t, T.length = t := ⟨_, rfl⟩
          have hsame := fun (W' : World) (a2 a3 : Option Addr) (c2 c3 : Nat) (h1 : Sees W' a2 (sects (T.map joined))) (h2 : Sees W' a3 (sects (T.map joined))) => sameN_ok (c := c2) (d := c3) h1 h2 (by rw [List.length_map]; have := HI.out.cC; omega) (by rw [List.length_map]; have := HI.out.cC; omega)
          rw [List.length_map, hTl, decide_eq_true (rfl : T.map joined = T.map joined)] at hsame
          rw [hTl] at hoa hob
          have HOA := Lib.hid hoa
          have HOB := Lib.hid hob
          have HI2 := Lib.hid I2
          have HEP := Lib.hid hep
          have HSAME := Lib.hid hsame
          subst hD2
          clear hoa hob I2 hep hsame hr2 hT hTl hfd htl
          go_wp2_with (first
            | (with_reducible refine wpList_store_pq HXA.out (⟨kd, s, zs, ax, cx⟩ : Pq) ?_ ?_
               exact ⟨rfl, _, _, rfl, rfl, rfl⟩
               intro w2 hx2
               clear c0 c1 c2
               obtain ⟨t0, t1, t2⟩ := pq3 hx2
               have HX5 := Lib.hid hx2.tail
               clear hx2 HXA)
            | (go_at_call 18; refine (HOA.out _ _ HX5.out.p1).mono ?_; rintro e w6 ⟨q2, v2, rfl, hx6⟩; obtain ⟨a2, c2, rfl, -⟩ := rowSlice hx6.p2; have HX6 := Lib.hid hx6; clear hx6 HX5)
            | (go_at_call 32; unfold Rg.mr at *; refine (HOB.out _ _ HX6.out.p5).mono ?_; rintro e w7 ⟨v3, rfl, hx7⟩; obtain ⟨a3, c3, rfl, -⟩ := rowSlice hx7.p1; obtain ⟨h, hh⟩ : ∃ h, w7.heap.size = h := ⟨_, rfl⟩; have hx7 := zmr hx7; rw [hh] at hx7; have HX7 := Lib.hid hx7; clear hx7 HX6)
            | (with_reducible refine wpList_store_mr HX7.out r2 ?_ ?_; exact ⟨rfl, _, _, rfl, rfl, rfl⟩; intro w8 hx8; have HX8 := Lib.hid hx8; clear hx8 HX7)
            | (go_at_call 30; refine (HSAME.out _ _ _ _ _ (row_sees HX8.out.p5) (row_sees HX8.out.p2)).mono ?_; rintro e w9 ⟨rfl, hb⟩; have HX9 := Lib.hid (HX8.out.ofBelow hb).drew; clear hb HX8))
          have h6 := mr6 HX9.out
          refine wp_region_planL [(0, true), (1, true), (2, true), (3, false)]
            [(3, fun w1 => w1.cell? ⟨h, 0, none⟩ = some (.int .i64 r2.fro) ∧ w1.cell? ⟨h, 1, none⟩ = some (.int .i64 r2.cnt) ∧ w1.cell? ⟨h, 2, none⟩ = some (.int .i64 r2.pos) ∧ w1.cell? ⟨h, 3, none⟩ = some (.int .i64 r2.used) ∧ w1.cell? ⟨h, 4, none⟩ = some (.int .i64 r2.seq) ∧ w1.cell? ⟨h, 5, none⟩ = some (.int .i64 r2.ep))] (by kernel_rfl) (by kernel_rfl) (by intro c a d v w h; cases d <;> exact h) ?_ ?_
          · exact ⟨h6, trivial⟩
          simp only [planOps, List.getElem?_cons_zero, List.getElem?_cons_succ]
          iterate 3 (first | ((apply plan_pure rfl; (intro w1; go_simp; try go_bits); with_reducible rfl); try simp only [Act.put, List.setIfInBounds_toArray, List.set_cons_zero, List.set_cons_succ]) | ((refine' plan_load 0 rfl (by kernel_rfl) rfl ?_ ?_; rotate_left; (intro w1 hw1; go_simp; with_reducible rfl)); try simp only [Act.put, List.setIfInBounds_toArray, List.set_cons_zero, List.set_cons_succ]))
          refine plan_loud rfl (fun K hK => ?_)
          refine wp_store_mr (sat_p7 HX9.out) r2 ⟨_, _, rfl, rfl, rfl⟩ ?_
          intro w10 hx10
          have HZ := Lib.hid hx10.p1.tail.p2.tail.p4.tail.p4.tail.p3.p3
          clear hx10 HX9 h6
          refine hK _ _ trivial (plan_nil ?_)
          clear hK K
          go_wp2
          have hz := HZ.out.drew
          have hu2 : r2.used ≤ C := HI2.out.ru
          have hC2 : C ≤ 20 := HI2.out.cC
          obtain ⟨-, -, m2, m3, m4, -⟩ := mr6 hz.p2
          obtain ⟨-, -, n2, n3, n4, -⟩ := mr6 hz.drew.p2
          have hnx := next_ok hz
          have hps := pos_ok hz
          have hrm := HI2.out.room hz
          have HNX := Lib.hid hnx
          have HPS := Lib.hid hps
          have HRM := Lib.hid hrm
          clear hnx hps hrm hz
          refine wp_region_planL [(0, true), (2, true), (3, true), (1, false), (4, true), (5, true), (6, true), (8, true), (9, true), (7, false), (10, true), (11, true), (12, true), (13, true), (15, true), (16, true), (17, true), (18, true), (14, false), (19, true), (20, true)]
            [(21, fun w1 => w1.cell? ⟨m, 2, none⟩ = some (.int .i64 r2.pos) ∧ w1.cell? ⟨m, 3, none⟩ = some (.int .i64 r2.used) ∧ w1.cell? ⟨m, 4, none⟩ = some (.int .i64 r2.seq))] (by kernel_rfl) (by kernel_rfl) (by intro c a d v w h; cases d <;> exact h) ?_ ?_
          · exact ⟨⟨m2, m3, m4⟩, trivial⟩
          simp only [planOps, List.getElem?_cons_zero, List.getElem?_cons_succ]
          iterate 3 (first | ((apply plan_pure rfl; (intro w1; go_simp; try go_bits); with_reducible rfl); try simp only [Act.put, List.setIfInBounds_toArray, List.set_cons_zero, List.set_cons_succ]) | ((refine' plan_load 0 rfl (by kernel_rfl) rfl ?_ ?_; rotate_left; (intro w1 hw1; go_simp; with_reducible rfl)); try simp only [Act.put, List.setIfInBounds_toArray, List.set_cons_zero, List.set_cons_succ]))
          refine plan_loud rfl (fun K hK => ?_); go_simp
          refine HNX.out.mono ?_
          rintro e w9 ⟨rfl, hw⟩
          subst w9
          dsimp only
          refine hK _ _ ⟨⟨m2, m3, m4⟩, trivial⟩ ?_
          clear hK K
          try simp only [Act.put, List.setIfInBounds_toArray, List.set_cons_zero, List.set_cons_succ]
          iterate 5 (first | ((apply plan_pure rfl; (intro w1; go_simp; try go_bits); with_reducible rfl); try simp only [Act.put, List.setIfInBounds_toArray, List.set_cons_zero, List.set_cons_succ]) | ((refine' plan_load 0 rfl (by kernel_rfl) rfl ?_ ?_; rotate_left; (intro w1 hw1; go_simp; with_reducible rfl)); try simp only [Act.put, List.setIfInBounds_toArray, List.set_cons_zero, List.set_cons_succ]))
          refine plan_loud rfl (fun K hK => ?_); go_simp
          refine HPS.out.mono ?_
          rintro e w9 ⟨rfl, hw⟩
          subst w9
          dsimp only
          refine hK _ _ ⟨⟨m2, m3, m4⟩, trivial⟩ ?_
          clear hK K
          try simp only [Act.put, List.setIfInBounds_toArray, List.set_cons_zero, List.set_cons_succ]
          iterate 8 (first | ((apply plan_pure rfl; (intro w1; go_simp; try go_bits); with_reducible rfl); try simp only [Act.put, List.setIfInBounds_toArray, List.set_cons_zero, List.set_cons_succ]) | ((refine' plan_load 0 rfl (by kernel_rfl) rfl ?_ ?_; rotate_left; (intro w1 hw1; go_simp; with_reducible rfl)); try simp only [Act.put, List.setIfInBounds_toArray, List.set_cons_zero, List.set_cons_succ]))
          refine plan_loud rfl (fun K hK => ?_); go_simp
          refine HRM.out.mono ?_
          rintro e w9 ⟨rfl, hw⟩
          subst w9
          dsimp only
          refine hK _ _ ⟨⟨n2, n3, n4⟩, trivial⟩ ?_
          clear hK K
          try simp only [Act.put, List.setIfInBounds_toArray, List.set_cons_zero, List.set_cons_succ]
          iterate 2 (first | ((apply plan_pure rfl; (intro w1; go_simp; try go_bits); with_reducible rfl); try simp only [Act.put, List.setIfInBounds_toArray, List.set_cons_zero, List.set_cons_succ]) | ((refine' plan_load 0 rfl (by kernel_rfl) rfl ?_ ?_; rotate_left; (intro w1 hw1; go_simp; with_reducible rfl)); try simp only [Act.put, List.setIfInBounds_toArray, List.set_cons_zero, List.set_cons_succ]))
          refine plan_nil ?_
          clear m2 m3 m4 n2 n3 n4
          go_wp2
          exact ⟨⟨k + 1, st, sq, si, r2, q2, D, by omega, HI2.out, by rw [HEP.out], rfl, rfl, rfl, rfl, by go_num, HZ.out.drew.drew⟩, by simp [intOf]; omega⟩
      · obtain rfl : k = len := by omega
        go_wp2_with (go_at_call 19; refine (known12_ok _).mono ?_; rintro e w' ⟨rfl, hb⟩)
        go_ret
        exact ⟨rfl, to_known12 HX.out.p4 hb⟩
  · go_enter Tryz.func8, Tryz.ntmps8
    go_wp2_with (first | (go_at_call 28; refine HL.out.mono ?_; rintro e w2 ⟨rfl, rfl⟩) | (go_at_call 19; refine (known12_ok _).mono ?_; rintro e w2 ⟨rfl, hb⟩))
    go_ret
    exact ⟨rfl, hb⟩
end Go.Proofs.YtmkpglabiikdeaaGreatDoor
