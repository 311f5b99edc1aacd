/-
  Layer 10: a step.
-/
import Derived.Test.YtmkpglabiikdeaaDiskZ
namespace Go.Proofs.Ytmkpglabiikdeaa
open Go.RowKit PH

structure St where
  kind : Int
  i : Int
  s : ByteArray
  keep : List Int

/-- A step's value, its slice at a. -/
def St.val (t : St) (a : Option Addr) (c : Nat) : Value := .agg #[.int .i64 t.kind, .int .i64 t.i, .string t.s, .slice a t.keep.length c]

theorem runAppI {E w : World} {L : List HP} {a : Option Addr} {c g : Nat} {zs : List Int} (ty : TypeId) (x : Sat E w (row 3 1 (.slice (some ⟨g, 0, none⟩) 0 0) 0 [] :: L)) (h : SeesI w a zs) (hl : zs.length ≤ 1000) :
    ∃ v' w', (Builtin.append_ #[42, 42] ty #[.slice (some ⟨g, 0, none⟩) 0 0, .slice a zs.length c]).run Try.prog w = .ok v' w' ∧ Sat E w' (row 3 1 v' zs.length (zs.map (Value.int .i64)) :: L) := by
  obtain ⟨i, hi, hz, hsz, hby⟩ := info_parts (P := Try.prog) (e := 3) (z := .int .i64 0) (size := 1) (bytes := 8) (by kernel_rfl)
  by_cases h0 : zs.length = 0
  · obtain rfl : zs = [] := List.eq_nil_of_length_eq_zero h0
    refine ⟨.slice (some ⟨g, 0, none⟩) 0 0, w, ?_, x⟩
    cases a <;> simp [Builtin.append_, run_underlying Try.underlying42, Go.sizeOf, typeInfo, hi, Builtin.lenOf, Builtin.firstCells, loadCells, loadCellsFrom, storeCells]
  · obtain ⟨b, off, rfl, -⟩ := h 0 zs[0] (List.getElem?_eq_getElem (by omega))
    obtain ⟨v', w', hr, h2, -⟩ := x.append (P := Try.prog) 42 ty i _ 8 Try.underlying42 hi hz hsz hby rfl ⟨b, off, none⟩ zs.length c (zs.map (Value.int .i64)) (by simp) (fun j u hj => by
      have hadd : (⟨b, off, none⟩ : Addr).add j = ⟨b, off + j, none⟩ := by unfold Addr.add; split <;> simp_all
      rw [List.getElem?_map] at hj
      cases hz : zs[j]? with
      | none => rw [hz] at hj; cases hj
      | some z =>
        rw [hz] at hj
        cases hj
        obtain ⟨b', off', e, hc⟩ := h j z hz
        cases e
        rw [hadd]; exact hc) (by simp [Value.oneCell']) (by unfold maxLen; omega) (by omega)
    rw [Nat.zero_add, List.nil_append] at h2
    exact ⟨v', w', hr, h2⟩

theorem wpList_appI {E w : World} {L : List HP} {a : Option Addr} {c g : Nat} {zs : List Int} {ops : Array Oper} {rest : List Oper} {o : Oper} {ac : Act} {Q : Exit → Act → World → Prop} (hgd : o.guard = none) (s p : Operand)
    (ho : o.op = .call { callee := .builtin .append, args := #[s, p], argTypes := #[42, 42] }) (x : Sat E w (row 3 1 (.slice (some ⟨g, 0, none⟩) 0 0) 0 [] :: L)) (h : SeesI w a zs) (hl : zs.length ≤ 1000)
    (hs : ac.eval s = .slice (some ⟨g, 0, none⟩) 0 0) (hp : ac.eval p = .slice a zs.length c)
    (hk : ∀ v' w', Sat E w' (row 3 1 v' zs.length (zs.map (Value.int .i64)) :: L) → wpList Try.prog ops Q rest (ac.put o.dst v') w') : wpList Try.prog ops Q (o :: rest) ac w := by
  obtain ⟨v', w', hr, hx⟩ := runAppI (c := c) o.type x h hl
  refine wpList_run hgd ?_ (hk _ _ hx)
  simp only [execOp, ho, resolve, invoke, builtin, Sem.run_bind, Sem.run_pure, Result.andThen_ok, List.map_toArray, List.map_cons, List.map_nil, hs, hp, hr]
theorem seesI_own {E w : World} {L : List HP} {zs : List Int} {a : Option Addr} {c : Nat} (x : Sat E w (row 3 1 (.slice a zs.length c) zs.length (zs.map (Value.int .i64)) :: L)) : SeesI w a zs := fun j u hj => by
  obtain ⟨g, cap, e, -, -, -, hsee⟩ := x.rowSees (by have := (List.getElem?_eq_some_iff.1 hj).1; omega)
  cases e
  exact ⟨g, 0, rfl, hsee j _ (by rw [List.getElem?_map, hj]; rfl)⟩

def doD (D : Dk) (t : St) : Dk := if t.kind = 1 then writeD D t.i t.s else if t.kind = 2 then barrierD D else if t.kind = 3 then armD D t.i else if t.kind = 4 then crashD D t.keep else D
def doS (D : Dk) (t : St) : ByteArray := if t.kind = 1 ∨ t.kind = 2 ∨ t.kind = 3 ∨ t.kind = 4 then ByteArray.empty else readS D t.i
def doE (D : Dk) (t : St) : Int := if t.kind = 1 then writeE D t.i t.s else if t.kind = 2 then barrierE D else if t.kind = 3 then aliveE D else if t.kind = 4 then crashE D else thereE D t.i

set_option maxRecDepth 100000 in
set_option maxHeartbeats 800000 in
theorem do_ok {E W : World} {L : List HP} {b : Nat} {D : Dk} {a : Option Addr} {c : Nat} {t : St} (x : Sat E W (isDisk b D :: L)) (ok : OkD D) (hb1 : D.barriers < 1000000) (hs : t.s.size ≤ 1000) (hk : t.keep.length ≤ 1000)
    (h : ∀ W', Sat E W' L → SeesI W' a t.keep) :
    Calls Try.prog 29 #[.pointer (some ⟨b, 0, none⟩), t.val a c] W fun e w' => e = .returned (.tuple #[.string (doS D t), .int .i64 (doE D t)]) ∧ Sat E w' (isDisk b (doD D t) :: L) := by
  obtain ⟨kd, i, s, zs⟩ := t
  unfold St.val
  dsimp only at hs hk h ⊢
  have HX := Lib.hid (x.alloc (.cells #[.int .i64 kd, .int .i64 i, .string s, .slice a zs.length c] 49)).p1
  have HOK := Lib.hid ok
  have HH := Lib.hid h
  clear x ok h
  by_cases k1 : kd = 1
  · subst k1
    obtain ⟨r, hr⟩ : ∃ r, writeE D i s = r := ⟨_, rfl⟩
    have HR := Lib.hid hr
    clear hr
    go_enter Try.func29, Try.ntmps29
    go_wp2_with (go_at_call 32; refine (write_ok HX.out HOK.out i s (by omega)).mono ?_; rintro e w2 ⟨rfl, hx2⟩; rw [HR.out]; have HX2 := Lib.hid hx2; clear hx2)
    go_ret2
    exact ⟨retS2 (by simp [doS]; rfl) (by simp [doE, HR.out]), by simpa [doD] using HX2.out.p1.tail⟩
  · by_cases k2 : kd = 2
    · subst k2
      obtain ⟨r, hr⟩ : ∃ r, barrierE D = r := ⟨_, rfl⟩
      have HR := Lib.hid hr
      clear hr
      go_enter Try.func29, Try.ntmps29
      go_wp2_with (go_at_call 34; refine (barrier_ok HX.out HOK.out hb1).mono ?_; rintro e w2 ⟨rfl, hx2⟩; rw [HR.out]; have HX2 := Lib.hid hx2; clear hx2)
      go_ret2
      exact ⟨retS2 (by simp [doS]; rfl) (by simp [doE, HR.out]), by simpa [doD] using HX2.out.p1.tail⟩
    · by_cases k3 : kd = 3
      · subst k3
        obtain ⟨r, hr⟩ : ∃ r, aliveE D = r := ⟨_, rfl⟩
        have HR := Lib.hid hr
        clear hr
        go_enter Try.func29, Try.ntmps29
        go_wp2_with (go_at_call 57; refine (arm_ok HX.out i).mono ?_; rintro e w2 ⟨rfl, hx2⟩; rw [HR.out]; have HX2 := Lib.hid hx2; clear hx2)
        go_ret2
        exact ⟨retS2 (by simp [doS]; rfl) (by simp [doE, HR.out]), by simpa [doD] using HX2.out.p1.tail⟩
      · by_cases k4 : kd = 4
        · subst k4
          obtain ⟨r, hr⟩ : ∃ r, crashE D = r := ⟨_, rfl⟩
          have HR := Lib.hid hr
          clear hr
          go_enter Try.func29, Try.ntmps29
          go_wp2_with (first
            | (at_builtin; go_loud (refine wpList_appI rfl _ _ rfl (HX.out.rowEmpty 3 1 (World.size_alloc _ _)) (HH.out _ (HX.out.rowEmpty 3 1 (World.size_alloc _ _)).tail.tail.tail) hk rfl rfl ?_; intro v' w3 hx3; obtain ⟨a', c', rfl, -⟩ := rowSlice hx3; have HX3 := Lib.hid hx3.p1; clear hx3))
            | (go_at_call 30; refine (crash_ok HX3.out HOK.out (fun W' hW => seesI_own hW) (by omega)).mono ?_; rintro e w2 ⟨rfl, hx2⟩; rw [HR.out]; have HX2 := Lib.hid hx2; clear hx2))
          go_ret2
          exact ⟨retS2 (by simp [doS]; rfl) (by simp [doE, HR.out]), by simpa [doD] using HX2.out.p1.tail.p1.tail⟩
        · have b1 : (kd == 1) = false := beq_eq_false_iff_ne.2 k1
          have b2 : (kd == 2) = false := beq_eq_false_iff_ne.2 k2
          have b3 : (kd == 3) = false := beq_eq_false_iff_ne.2 k3
          have b4 : (kd == 4) = false := beq_eq_false_iff_ne.2 k4
          have hread : Calls Try.prog 35 #[.pointer (some ⟨b, 0, none⟩), .int .i64 i] (W.alloc (.cells #[.int .i64 kd, .int .i64 i, .string s, .slice a zs.length c] 49)) fun e w' =>
              e = .returned (.tuple #[.string (readS D i), .int .i64 (thereE D i)]) ∧ Sat E w' (isDisk b D :: pt W.heap.size (.cells #[.int .i64 kd, .int .i64 i, .string s, .slice a zs.length c] 49) :: L) := by
            by_cases h0 : thereE D i = 0
            · have := read_yes HX.out HOK.out i h0
              unfold readS
              rw [if_pos h0, h0]
              exact this
            · have := read_no HX.out i h0
              unfold readS
              rw [if_neg h0]
              exact this
          have HRD := Lib.hid hread
          clear hread
          obtain ⟨r, hr⟩ : ∃ r, thereE D i = r := ⟨_, rfl⟩
          obtain ⟨rs, hrs⟩ : ∃ r, readS D i = r := ⟨_, rfl⟩
          have HR := Lib.hid hr
          have HRS := Lib.hid hrs
          clear hr hrs
          go_enter Try.func29, Try.ntmps29
          go_wp2_with (go_at_call 35; refine HRD.out.mono ?_; rintro e w2 ⟨rfl, hx2⟩; rw [HR.out, HRS.out]; have HX2 := Lib.hid hx2; clear hx2)
          go_ret2
          exact ⟨retS2 (by simp [doS, k1, k2, k3, k4, HRS.out]) (by simp [doE, k1, k2, k3, k4, HR.out]), by simpa [doD, k1, k2, k3, k4] using HX2.out.p1.tail⟩

set_option maxRecDepth 100000 in
set_option maxHeartbeats 800000 in
theorem do_nil {E W : World} {L : List HP} {a : Option Addr} {c : Nat} {t : St} (x : Sat E W L) (hk : t.keep.length ≤ 1000) (h : ∀ W', Sat E W' L → SeesI W' a t.keep) :
    Calls Try.prog 29 #[.pointer none, t.val a c] W fun e w' => e = .returned (.tuple #[.string ByteArray.empty, .int .i64 1]) ∧ Sat E w' L := by
  obtain ⟨kd, i, s, zs⟩ := t
  unfold St.val
  dsimp only at hk h ⊢
  have HX := Lib.hid (x.alloc (.cells #[.int .i64 kd, .int .i64 i, .string s, .slice a zs.length c] 49))
  have HH := Lib.hid h
  clear x h
  by_cases k1 : kd = 1
  · subst k1
    go_enter Try.func29, Try.ntmps29
    go_wp2_with (go_at_call 32; refine (write_nil i s).mono ?_; rintro e w2 ⟨rfl, rfl⟩)
    go_ret2
    exact ⟨rfl, HX.out.tail⟩
  · by_cases k2 : kd = 2
    · subst k2
      go_enter Try.func29, Try.ntmps29
      go_wp2_with (go_at_call 34; refine barrier_nil.mono ?_; rintro e w2 ⟨rfl, rfl⟩)
      go_ret2
      exact ⟨rfl, HX.out.tail⟩
    · by_cases k3 : kd = 3
      · subst k3
        go_enter Try.func29, Try.ntmps29
        go_wp2_with (go_at_call 57; refine (arm_nil i).mono ?_; rintro e w2 ⟨rfl, rfl⟩)
        go_ret2
        exact ⟨rfl, HX.out.tail⟩
      · by_cases k4 : kd = 4
        · subst k4
          go_enter Try.func29, Try.ntmps29
          go_wp2_with (first
            | (at_builtin; go_loud (refine wpList_appI rfl _ _ rfl (HX.out.rowEmpty 3 1 (World.size_alloc _ _)) (HH.out _ (HX.out.rowEmpty 3 1 (World.size_alloc _ _)).tail.tail) hk rfl rfl ?_; intro v' w3 hx3; obtain ⟨a', c', rfl, -⟩ := rowSlice hx3; have HX3 := Lib.hid hx3; clear hx3))
            | (go_at_call 30; refine (crash_nil HX3.out _).mono ?_; rintro e w2 ⟨rfl, hx2⟩; have HX2 := Lib.hid hx2; clear hx2))
          go_ret2
          exact ⟨rfl, HX2.out.tail.tail⟩
        · have b1 : (kd == 1) = false := beq_eq_false_iff_ne.2 k1
          have b2 : (kd == 2) = false := beq_eq_false_iff_ne.2 k2
          have b3 : (kd == 3) = false := beq_eq_false_iff_ne.2 k3
          have b4 : (kd == 4) = false := beq_eq_false_iff_ne.2 k4
          go_enter Try.func29, Try.ntmps29
          go_wp2_with (go_at_call 35; refine (read_nil HX.out i).mono ?_; rintro e w2 ⟨rfl, hx2⟩)
          go_ret2
          exact ⟨rfl, hx2.tail⟩

theorem count0_ok {E W : World} {L : List HP} {b : Nat} {D : Dk} (x : Sat E W (isDisk b D :: L)) (hm : madeB D = false) : Calls Try.prog 39 #[.pointer (some ⟨b, 0, none⟩)] W fun e w' => e = .returned (.tuple #[.int .i64 0, .int .i64 0]) ∧ w' = W := by
  have HX := Lib.hid x
  have HM := Lib.hid hm
  clear x hm
  go_enter Try.func39, Try.ntmps39
  go_wp2_with (go_at_call 65; refine (made_ok HX.out).mono ?_; rintro e w2 ⟨rfl, rfl⟩; rw [HM.out])
  go_ret2
  exact ⟨rfl, rfl⟩
end Go.Proofs.Ytmkpglabiikdeaa
