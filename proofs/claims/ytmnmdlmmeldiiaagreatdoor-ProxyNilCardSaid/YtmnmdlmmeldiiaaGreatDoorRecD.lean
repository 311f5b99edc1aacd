/-
  The reckoner: what is held equal.
-/
import Derived.Test.YtmnmdlmmeldiiaaGreatDoorRecB
set_option linter.unusedVariables false
set_option linter.unusedSimpArgs false
namespace PH.R
open Go Go.RowKit
variable {X : Cx} {μ : Mu} {h : H} {ls : T (Option Lp)} {w0 w : World} {t : TV} {k : V → Bool}

theorem ikEq_eq {a b : IntKind} (h : ikEq a b = true) : a = b := by revert h; cases a <;> cases b <;> simp [ikEq, ikN]
/-- What a type that is held equal is. -/
def PrimTy (P : Program) (te : TE) (t : TypeId) : Prop := match te with
  | .int => ∃ ik, P.underlying t = some (.int ik)
  | .str => P.underlying t = some .string
  | .bool => P.underlying t = some .bool
  | _ => False
theorem primEq_ok {te : TE} {x y : V} {b : Bool} {A B : Value} (q : primEq te x y = some b) (ha : X.Rv μ x A) (hb : X.Rv μ y B) {ty : TypeId} (ht : PrimTy X.P te ty) (d : Nat) : (Go.Op.equalIn (d + 1) ty A B).run X.P w = .ok b w := by
  cases te with
  | int =>
    obtain ⟨ik, ht⟩ := ht
    cases x <;> cases y <;> first | (cases q; done) | skip
    rename_i k1 n1 k2 n2
    unfold primEq at q
    simp only [bc_eq] at q
    split at q
    · rename_i c
      cases ikEq_eq c
      cases q
      cases rv_i ha; cases rv_i hb
      rw [run_equalIn_int w d ty k1 ik n1 n2 ht, eqI_eq]
    · cases q
  | str =>
    cases x <;> cases y <;> first | (cases q; done) | skip
    cases q
    cases rv_s ha; cases rv_s hb
    rw [run_equalIn_string w d ty _ _ ht, strEq_list]
  | bool =>
    cases x <;> cases y <;> first | (cases q; done) | skip
    cases q
    cases rv_b ha; cases rv_b hb
    rw [run_equalIn_bool' w d ty _ _ ht]
  | arr n e => exact ht.elim
  | st fs => exact ht.elim

/-! The types of what is held equal, and how deep -/
mutual
def TeTy (P : Program) : TE → TypeId → Prop
  | .int, t => ∃ ik, P.underlying t = some (.int ik)
  | .str, t => P.underlying t = some .string
  | .bool, t => P.underlying t = some .bool
  | .arr n e, t => ∃ el i, P.underlying t = some (.array n el) ∧ P.info? el = some i ∧ i.size = 1 ∧ PrimTy P e el
  | .st fs, t => ∃ gs, P.underlying t = some (.struct gs) ∧ P.stoodInHeld t = false ∧ FsTy P fs gs.toList
def FsTy (P : Program) : List (Nat × Nat × TE) → List Field → Prop
  | [], [] => True
  | (off, sz, e) :: fs, g :: gs => g.name ≠ "_" ∧ g.offset = off ∧ (∃ i, P.info? g.type = some i ∧ i.size = sz) ∧ TeTy P e g.type ∧ FsTy P fs gs
  | _, _ => False
end
mutual
def TE.deep : TE → Nat
  | .int | .str | .bool => 1
  | .arr _ _ => 2
  | .st fs => 1 + fsDeep fs
def fsDeep : List (Nat × Nat × TE) → Nat
  | [] => 0
  | (_, _, e) :: fs => max e.deep (fsDeep fs)
end
theorem run_und {P : Program} {ty : TypeId} {d : TypeDesc} (h : P.underlying ty = some d) : (underlying ty).run P w = .ok d w := by
  unfold underlying
  rw [Sem.run_bind, run_program, Result.andThen_ok, h]; rfl
theorem run_size {P : Program} {ty : TypeId} {i : TypeInfo} (h : P.info? ty = some i) : (Go.sizeOf ty).run P w = .ok i.size w := by
  unfold Go.sizeOf typeInfo
  simp only [Sem.run_bind, run_program, Result.andThen_ok, h, Sem.run_pure]
def aggD : TypeDesc → Bool
  | .struct _ | .array _ _ => true
  | _ => false
theorem run_isAgg {P : Program} {ty : TypeId} {d : TypeDesc} (h : P.underlying ty = some d) : (isAgg ty).run P w = .ok (aggD d) w := by
  unfold isAgg
  rw [Sem.run_bind, run_und h, Result.andThen_ok]
  cases d <;> rfl

theorem nthO_eq {α : Type} : ∀ (l : List α) (i : Nat), nthO l i = l[i]?
  | [], _ => rfl
  | _ :: _, 0 => rfl
  | _ :: l, i + 1 => nthO_eq l i
/-- A part of an aggregate. -/
theorem partV_ok {te : TE} {off sz : Nat} {l : List V} {v : V} {L : List Value} (q : partV te off sz l = some v) (hl : X.Rvs μ l L) {ty : TypeId} {i : TypeInfo} (hi : X.P.info? ty = some i) (hs : i.size = sz) (ht : TeTy X.P te ty) :
    ∃ x, X.Rv μ v x ∧ (Go.part ty L.toArray off).run X.P w = .ok x w := by
  unfold partV at q
  have one : te.agg = false → nthO l off = some v → (∃ d, X.P.underlying ty = some d ∧ aggD d = false) → ∃ x, X.Rv μ v x ∧ (Go.part ty L.toArray off).run X.P w = .ok x w := by
    rintro _ q ⟨d, hd, hn⟩
    rw [nthO_eq] at q
    obtain ⟨x, hx, hv⟩ := rvs_nth hl q
    refine ⟨x, hv, ?_⟩
    unfold Go.part
    rw [Sem.run_bind, run_isAgg hd, Result.andThen_ok, hn]
    simp only [Bool.false_eq_true, if_false, List.getElem?_toArray, hx]
    rfl
  have many : te.agg = true → (obo (takeL sz (dropL off l)) fun q => some (V.ag q)) = some v → (∃ d, X.P.underlying ty = some d ∧ aggD d = true) → ∃ x, X.Rv μ v x ∧ (Go.part ty L.toArray off).run X.P w = .ok x w := by
    rintro _ q ⟨d, hd, hn⟩
    obtain ⟨p, hp, q⟩ := obo_some.1 q
    cases q
    obtain ⟨rfl, hm⟩ := takeDrop_ok hp
    refine ⟨_, rv_ag_mk (rvs_takeDrop hl off sz), ?_⟩
    unfold Go.part
    rw [Sem.run_bind, run_isAgg hd, Result.andThen_ok, hn]
    simp only [if_true]
    rw [Sem.run_bind, run_size hi, Result.andThen_ok, hs, Sem.run_pure]
    congr 2
    rw [List.extract_toArray]
    congr 1
    rw [List.extract_eq_take_drop, Nat.add_sub_cancel_left]
  rw [bc_eq] at q
  cases te with
  | int => obtain ⟨ik, ht⟩ := ht; exact one rfl (by simpa [TE.agg] using q) ⟨_, ht, rfl⟩
  | str => exact one rfl (by simpa [TE.agg] using q) ⟨_, ht, rfl⟩
  | bool => exact one rfl (by simpa [TE.agg] using q) ⟨_, ht, rfl⟩
  | arr n e => obtain ⟨el, _, ht, _⟩ := ht; exact many rfl (by simpa [TE.agg] using q) ⟨_, ht, rfl⟩
  | st fs => obtain ⟨gs, ht, _⟩ := ht; exact many rfl (by simpa [TE.agg] using q) ⟨_, ht, rfl⟩

theorem primEqs_ok {te : TE} {el : TypeId} {i : TypeInfo} (hi : X.P.info? el = some i) (hs : i.size = 1) (ht : PrimTy X.P te el) (d : Nat) (xs ys : List Value) : ∀ {l m : List V} {b : Bool} (o : Nat), primEqs te l m = some b →
    X.Rvs μ l (xs.drop o) → X.Rvs μ m (ys.drop o) → o ≤ xs.length → o ≤ ys.length →
    ((forIn (List.range' o l.length) ((none, ()) : Option Bool × Unit) fun (i : Nat) (_ : Option Bool × Unit) => (do
        let a ← Go.part el xs.toArray (i * 1)
        let b ← Go.part el ys.toArray (i * 1)
        let q ← Go.Op.equalIn (d + 1) el a b
        if (!q) = true then pure (ForInStep.done (some false, ())) else pure (ForInStep.yield (none, ())) : Sem (ForInStep (Option Bool × Unit)))) : Sem (Option Bool × Unit)).run X.P w = .ok (if b then none else some false, ()) w
  | [], [], b, o, q, _, _, _, _ => by
    cases q; rfl
  | x :: l, y :: m, b, o, q, hx, hy, h1, h2 => by
    obtain ⟨r, hr, q⟩ := obo_some.1 (show obo (primEq te x y) (fun r => bc r (primEqs te l m) (some false)) = some b from q)
    obtain ⟨A, L, hA, hL, eA⟩ := (concs_cons X.ms).1 hx
    obtain ⟨B, M, hB, hM, eB⟩ := (concs_cons X.ms).1 hy
    have ga : xs[o]? = some A := by have := congrArg (·[0]?) eA; simpa using this
    have gb : ys[o]? = some B := by have := congrArg (·[0]?) eB; simpa using this
    have dA : xs.drop (o + 1) = L := by have := congrArg (List.drop 1) eA; simpa [List.drop_drop, Nat.add_comm] using this
    have dB : ys.drop (o + 1) = M := by have := congrArg (List.drop 1) eB; simpa [List.drop_drop, Nat.add_comm] using this
    have hna : ∃ dd, X.P.underlying el = some dd ∧ aggD dd = false := by
      cases te with
      | int => obtain ⟨ik, ht⟩ := ht; exact ⟨_, ht, rfl⟩
      | str => exact ⟨_, ht, rfl⟩
      | bool => exact ⟨_, ht, rfl⟩
      | arr n e => exact ht.elim
      | st fs => exact ht.elim
    obtain ⟨dd, hd, hn⟩ := hna
    have pa : (Go.part el xs.toArray (o * 1)).run X.P w = .ok A w := by
      unfold Go.part
      rw [Sem.run_bind, run_isAgg hd, Result.andThen_ok, hn, Nat.mul_one]
      simp only [Bool.false_eq_true, if_false, List.getElem?_toArray, ga]
      rfl
    have pb : (Go.part el ys.toArray (o * 1)).run X.P w = .ok B w := by
      unfold Go.part
      rw [Sem.run_bind, run_isAgg hd, Result.andThen_ok, hn, Nat.mul_one]
      simp only [Bool.false_eq_true, if_false, List.getElem?_toArray, gb]
      rfl
    have hlx : o + 1 ≤ xs.length := by have := (List.getElem?_eq_some_iff.1 ga).1; omega
    have hly : o + 1 ≤ ys.length := by have := (List.getElem?_eq_some_iff.1 gb).1; omega
    rw [List.length_cons, List.range'_succ, List.forIn_cons, Sem.run_bind, Sem.run_bind, pa, Result.andThen_ok, Sem.run_bind, pb, Result.andThen_ok, Sem.run_bind, primEq_ok hr hA hB ht d, Result.andThen_ok]
    cases r
    · have : b = false := by simpa [bc] using q.symm
      subst this
      rfl
    · have q : primEqs te l m = some b := q
      simp only [Bool.not_true, Bool.false_eq_true, if_false, Sem.run_pure, Result.andThen_ok]
      exact primEqs_ok hi hs ht d xs ys (o + 1) q (by rw [dA]; exact hL) (by rw [dB]; exact hM) hlx hly
  | [], _ :: _, b, o, q, _, _, _, _ => by cases q
  | _ :: _, [], b, o, q, _, _, _, _ => by cases q

theorem fsTy_fields {P : Program} {ty : TypeId} {gs : Array Field} (h : P.underlying ty = some (.struct gs)) : P.fieldsOf ty = gs := by
  unfold Program.fieldsOf
  rw [h]
mutual
theorem eqTE_ok : ∀ (te : TE) {x y : V} {b : Bool} {A B : Value}, eqTE te x y = some b → X.Rv μ x A → X.Rv μ y B → ∀ {ty : TypeId}, TeTy X.P te ty → ∀ {d : Nat}, te.deep ≤ d → (Go.Op.equalIn d ty A B).run X.P w = .ok b w
  | .int, x, y, b, A, B, q, ha, hb, ty, ht, d, hd => by
    obtain ⟨d, rfl⟩ : ∃ e, d = e + 1 := ⟨d - 1, by simp only [TE.deep] at hd; omega⟩
    exact primEq_ok (te := .int) q ha hb ht d
  | .str, x, y, b, A, B, q, ha, hb, ty, ht, d, hd => by
    obtain ⟨d, rfl⟩ : ∃ e, d = e + 1 := ⟨d - 1, by simp only [TE.deep] at hd; omega⟩
    exact primEq_ok (te := .str) q ha hb ht d
  | .bool, x, y, b, A, B, q, ha, hb, ty, ht, d, hd => by
    obtain ⟨d, rfl⟩ : ∃ e, d = e + 1 := ⟨d - 1, by simp only [TE.deep] at hd; omega⟩
    exact primEq_ok (te := .bool) q ha hb ht d
  | .arr n e, x, y, b, A, B, q, ha, hb, ty, ht, d, hd => by
    obtain ⟨d, rfl⟩ : ∃ e, d = (e + 1) + 1 := ⟨d - 2, by simp only [TE.deep] at hd; omega⟩
    obtain ⟨el, i, h1, h2, h3, h4⟩ := ht
    cases x <;> cases y <;> first | (cases q; done) | skip
    rename_i l m
    rw [show eqTE (.arr n e) (.ag l) (.ag m) = bc (Nat.beq (lenL l 0) n && Nat.beq (lenL m 0) n) (primEqs e l m) none from rfl, bc_eq] at q
    split at q
    · rename_i c
      simp only [Bool.and_eq_true, Nat.beq_eq, lenL_zero] at c
      obtain ⟨L, hL, rfl⟩ := rv_ag ha
      obtain ⟨M, hM, rfl⟩ := rv_ag hb
      have key := primEqs_ok (w := w) h2 h3 h4 d L M 0 q hL hM (by omega) (by omega)
      rw [c.1] at key
      generalize d + 1 = d' at key ⊢
      show (Go.Op.equalIn (d' + 1) ty _ _).run X.P w = _
      simp only [Go.Op.equalIn, Sem.run_bind, run_und h1, Result.andThen_ok, run_size h2, h3]
      rw [Std.Legacy.Range.forIn_eq_forIn_range']
      rw [show List.range' (Std.Legacy.Range.start [:n]) (Std.Legacy.Range.size [:n]) (Std.Legacy.Range.step [:n]) = List.range' 0 n by simp [Std.Legacy.Range.size]]
      rw [key]
      cases b <;> rfl
    · cases q
  | .st fs, x, y, b, A, B, q, ha, hb, ty, ht, d, hd => by
    obtain ⟨d, rfl⟩ : ∃ e, d = e + 1 := ⟨d - 1, by simp only [TE.deep] at hd; omega⟩
    obtain ⟨gs, h1, h2, h3⟩ := ht
    cases x <;> cases y <;> first | (cases q; done) | skip
    rename_i l m
    obtain ⟨L, hL, rfl⟩ := rv_ag ha
    obtain ⟨M, hM, rfl⟩ := rv_ag hb
    rw [run_equalIn_struct w d ty _ _ (by rw [fsTy_fields h1]; exact h1) h2, fsTy_fields h1]
    exact eqFs_ok fs (show eqFs fs l m = some b from q) hL hM h3 (by simp only [TE.deep] at hd; omega)
theorem eqFs_ok : ∀ (fs : List (Nat × Nat × TE)) {l m : List V} {b : Bool} {L M : List Value}, eqFs fs l m = some b → X.Rvs μ l L → X.Rvs μ m M → ∀ {gs : List Field}, FsTy X.P fs gs → ∀ {d : Nat}, fsDeep fs ≤ d → (Go.Op.eqFields d L.toArray M.toArray gs).run X.P w = .ok b w
  | [], l, m, b, L, M, q, hL, hM, gs, hg, d, hd => by
    cases gs with
    | nil => cases q; rfl
    | cons g gs => exact hg.elim
  | (off, sz, te) :: fs, l, m, b, L, M, q, hL, hM, gs, hg, d, hd => by
    cases gs with
    | nil => exact hg.elim
    | cons g gs =>
      obtain ⟨h1, h2, ⟨i, h3, h4⟩, h5, h6⟩ := hg
      obtain ⟨x, hx, q⟩ := obo_some.1 (show obo (partV te off sz l) (fun x => obo (partV te off sz m) fun y => obo (eqTE te x y) fun r => bc r (eqFs fs l m) (some false)) = some b from q)
      obtain ⟨y, hy, q⟩ := obo_some.1 q
      obtain ⟨r, hr, q⟩ := obo_some.1 q
      obtain ⟨A, hA, pA⟩ := partV_ok (w := w) hx hL h3 h4 h5
      obtain ⟨B, hB, pB⟩ := partV_ok (w := w) hy hM h3 h4 h5
      have hd : te.deep ≤ d ∧ fsDeep fs ≤ d := by simp only [fsDeep] at hd; omega
      rw [Go.Op.eqFields, if_pos h1, h2, Sem.run_bind, pA, Result.andThen_ok, Sem.run_bind, pB, Result.andThen_ok, Sem.run_bind, eqTE_ok te hr hA hB h5 hd.1, Result.andThen_ok]
      cases r
      · cases q; rfl
      · simp only [Bool.not_true, Bool.false_eq_true, if_false]
        exact eqFs_ok fs q hL hM h6 hd.2
end
end PH.R
/-
  The reckoner: quiet operations on maps and on interface values.
-/
namespace PH.R
open Go Go.RowKit
variable {X : Cx} {μ : Mu} {h : H} {ls : T (Option Lp)} {w0 w : World} {t : TV} {k : V → Bool}

/-! Keys -/
theorem sameNow_equal {d : TypeDesc} {A B : Value} {b : Bool} (hq : Instr.sameNow d A B = some b) {ty : TypeId} (hd : X.P.underlying ty = some d) (n : Nat) : (Go.Op.equalIn (n + 1) ty A B).run X.P w = .ok b w := by
  unfold Instr.sameNow at hq
  split at hq
  · split at hq
    · rename_i c
      subst c
      cases hq
      exact run_equalIn_int w n ty _ _ _ _ hd
    · cases hq
  · cases hq
    simp [Go.Op.equalIn, run_und hd]
  · cases hq; exact run_equalIn_bool' w n ty _ _ hd
  · cases hq
/-- What was found in a map. -/
def FRel (X : Cx) (μ : Mu) : Option (Nat × V) → Option (Nat × Value) → Prop
  | none, none => True
  | some (j, v), some (k, y) => j = k ∧ X.Rv μ v y
  | _, _ => False
theorem findK_ok {te : TE} {x : V} {A : Value} (ha : X.Rv μ x A) {kt : TypeId} (ht : TeTy X.P te kt) (hd : te.deep ≤ Go.Op.maxDepth) : ∀ {es : List (V × V × Nat)} {m : List MapEntry} {i : Nat} {f : Option (Nat × V)}, findK te x es i = some f → EntRel X μ es m →
    ∃ F, FRel X μ f F ∧ (Instr.findAsking kt A m i).run X.P w = .ok F w ∧ ∀ d, X.P.underlying kt = some d → Instr.findNow d A m i = none ∨ Instr.findNow d A m i = some F
  | [], [], i, f, q, _ => by cases q; exact ⟨none, trivial, rfl, fun _ _ => .inr rfl⟩
  | (k', v, c) :: es, e :: m, i, f, q, ⟨h1, h2, h3, h4⟩ => by
    obtain ⟨r, hr, q⟩ := obo_some.1 (show obo (eqTE te x k') (fun r => bc r (some (some (i, v))) (findK te x es (i + 1))) = some f from q)
    have hrun := eqTE_ok (w := w) te hr ha h1 ht hd
    have hnow : ∀ d, X.P.underlying kt = some d → ∀ b, Instr.sameNow d A e.key = some b → b = r := fun d hd' b hb => by
      have := sameNow_equal (X := X) (w := w) hb hd' 9999
      rw [show Go.Op.maxDepth = 9999 + 1 from rfl, this] at hrun
      exact (Result.ok.inj hrun).1
    cases r with
    | true =>
      cases q
      refine ⟨some (i, e.val), ⟨rfl, h2⟩, ?_, fun d hd' => ?_⟩
      · unfold Instr.findAsking Go.Op.equal
        rw [Sem.run_bind, hrun, Result.andThen_ok]; rfl
      · unfold Instr.findNow
        cases hs : Instr.sameNow d A e.key with
        | none => exact .inl rfl
        | some b => cases hnow d hd' b hs; exact .inr rfl
    | false =>
      obtain ⟨F, hF, hA, hN⟩ := findK_ok ha ht hd (i := i + 1) (show findK te x es (i + 1) = some f from q) h4
      refine ⟨F, hF, ?_, fun d hd' => ?_⟩
      · unfold Instr.findAsking Go.Op.equal
        rw [Sem.run_bind, hrun, Result.andThen_ok]; exact hA
      · unfold Instr.findNow
        cases hs : Instr.sameNow d A e.key with
        | none => exact .inl rfl
        | some b => cases hnow d hd' b hs; exact hN d hd'
  | [], _ :: _, _, _, _, h => h.elim
  | (_, _, _) :: _, [], _, _, _, h => h.elim
theorem TeTy.und {P : Program} {te : TE} {t : TypeId} (h : TeTy P te t) : ∃ d, P.underlying t = some d := by
  cases te with
  | int => obtain ⟨ik, h⟩ := h; exact ⟨_, h⟩
  | str => exact ⟨_, h⟩
  | bool => exact ⟨_, h⟩
  | arr n e => obtain ⟨_, _, h, _⟩ := h; exact ⟨_, h⟩
  | st fs => obtain ⟨_, h, _⟩ := h; exact ⟨_, h⟩
theorem findKey_ok {te : TE} {x : V} {A : Value} (ha : X.Rv μ x A) {kt : TypeId} (ht : TeTy X.P te kt) (hd : te.deep ≤ Go.Op.maxDepth) {es : List (V × V × Nat)} {m : List MapEntry} {f : Option (Nat × V)} (q : findK te x es 0 = some f) (hm : EntRel X μ es m) :
    ∃ F, FRel X μ f F ∧ (Instr.findKey kt A m).run X.P w = .ok F w := by
  obtain ⟨F, hF, hA, hN⟩ := findK_ok (w := w) ha ht hd q hm
  obtain ⟨d, hu⟩ := ht.und
  refine ⟨F, hF, ?_⟩
  unfold Instr.findKey
  rw [Sem.run_bind, run_und hu, Result.andThen_ok]
  rcases hN d hu with h | h <;> rw [h]
  · exact hA
  · rfl

theorem checkPrim {te : TE} {ty : TypeId} (ht : PrimTy X.P te ty) (em : Bool) (d : Nat) (A : Value) : (Instr.checkKey em (d + 1) ty A).run X.P w = .ok () w := by
  cases te with
  | int => obtain ⟨ik, ht⟩ := ht; unfold Instr.checkKey; rw [Sem.run_bind, run_und ht, Result.andThen_ok]; rfl
  | str => unfold Instr.checkKey; rw [Sem.run_bind, run_und ht, Result.andThen_ok]; rfl
  | bool => unfold Instr.checkKey; rw [Sem.run_bind, run_und ht, Result.andThen_ok]; rfl
  | arr n e => exact ht.elim
  | st fs => exact ht.elim
theorem prim_noAgg {P : Program} {te : TE} {ty : TypeId} (ht : PrimTy P te ty) : ∃ d, P.underlying ty = some d ∧ aggD d = false := by
  cases te with
  | int => obtain ⟨ik, ht⟩ := ht; exact ⟨_, ht, rfl⟩
  | str => exact ⟨_, ht, rfl⟩
  | bool => exact ⟨_, ht, rfl⟩
  | arr n e => exact ht.elim
  | st fs => exact ht.elim
theorem checkParts {te : TE} {el : TypeId} {ti : TypeInfo} (hi : X.P.info? el = some ti) (hs : ti.size = 1) (ht : PrimTy X.P te el) (em : Bool) (d : Nat) (xs : List Value) : ∀ (n o : Nat), o + n ≤ xs.length →
    ((forIn (List.range' o n) PUnit.unit fun (i : Nat) (_ : PUnit) => (do
        let a ← Go.part el xs.toArray (i * (← Go.sizeOf el))
        Instr.checkKey em (d + 1) el a
        pure (ForInStep.yield PUnit.unit) : Sem (ForInStep PUnit))) : Sem PUnit).run X.P w = .ok PUnit.unit w
  | 0, _, _ => rfl
  | n + 1, o, h => by
    obtain ⟨dd, hd, hn⟩ := prim_noAgg ht
    have pa : (Go.part el xs.toArray (o * 1)).run X.P w = .ok xs[o] w := by
      unfold Go.part
      rw [Sem.run_bind, run_isAgg hd, Result.andThen_ok, hn, Nat.mul_one]
      simp only [Bool.false_eq_true, if_false, List.getElem?_toArray, List.getElem?_eq_getElem (show o < xs.length by omega)]
      rfl
    rw [List.range'_succ, List.forIn_cons, Sem.run_bind, Sem.run_bind, run_size hi, hs, Result.andThen_ok, Sem.run_bind, pa, Result.andThen_ok, Sem.run_bind, checkPrim ht, Result.andThen_ok, Sem.run_pure, Result.andThen_ok]
    exact checkParts hi hs ht em d xs n (o + 1) (by omega)
mutual
theorem checkTE : ∀ (te : TE) {x : V} {A : Value}, eqTE te x x = some true → X.Rv μ x A → ∀ {ty : TypeId}, TeTy X.P te ty → ∀ (em : Bool) {d : Nat}, te.deep ≤ d → (Instr.checkKey em d ty A).run X.P w = .ok () w
  | .int, x, A, q, ha, ty, ht, em, d, hd => by
    obtain ⟨d, rfl⟩ : ∃ e, d = e + 1 := ⟨d - 1, by simp only [TE.deep] at hd; omega⟩
    exact checkPrim (te := .int) ht em d A
  | .str, x, A, q, ha, ty, ht, em, d, hd => by
    obtain ⟨d, rfl⟩ : ∃ e, d = e + 1 := ⟨d - 1, by simp only [TE.deep] at hd; omega⟩
    exact checkPrim (te := .str) ht em d A
  | .bool, x, A, q, ha, ty, ht, em, d, hd => by
    obtain ⟨d, rfl⟩ : ∃ e, d = e + 1 := ⟨d - 1, by simp only [TE.deep] at hd; omega⟩
    exact checkPrim (te := .bool) ht em d A
  | .arr n e, x, A, q, ha, ty, ht, em, d, hd => by
    obtain ⟨d, rfl⟩ : ∃ e, d = (e + 1) + 1 := ⟨d - 2, by simp only [TE.deep] at hd; omega⟩
    obtain ⟨el, i, h1, h2, h3, h4⟩ := ht
    cases x <;> first | (cases q; done) | skip
    rename_i l
    rw [show eqTE (.arr n e) (.ag l) (.ag l) = bc (Nat.beq (lenL l 0) n && Nat.beq (lenL l 0) n) (primEqs e l l) none from rfl, bc_eq] at q
    split at q
    · rename_i c
      simp only [Bool.and_self, Nat.beq_eq, lenL_zero] at c
      obtain ⟨L, hL, rfl⟩ := rv_ag ha
      have key := checkParts (w := w) h2 h3 h4 em d L n 0 (by rw [rvs_length hL]; omega)
      generalize d + 1 = d' at key ⊢
      show (Instr.checkKey em (d' + 1) ty _).run X.P w = _
      simp only [Instr.checkKey, Sem.run_bind, run_und h1, Result.andThen_ok]
      rw [Std.Legacy.Range.forIn_eq_forIn_range']
      rw [show List.range' (Std.Legacy.Range.start [:n]) (Std.Legacy.Range.size [:n]) (Std.Legacy.Range.step [:n]) = List.range' 0 n by simp [Std.Legacy.Range.size]]
      rw [key]
      rfl
    · cases q
  | .st fs, x, A, q, ha, ty, ht, em, d, hd => by
    obtain ⟨d, rfl⟩ : ∃ e, d = e + 1 := ⟨d - 1, by simp only [TE.deep] at hd; omega⟩
    obtain ⟨gs, h1, h2, h3⟩ := ht
    cases x <;> first | (cases q; done) | skip
    rename_i l
    obtain ⟨L, hL, rfl⟩ := rv_ag ha
    have key := checkFs fs (show eqFs fs l l = some true from q) hL h3 em (d := d) (by simp only [TE.deep] at hd; omega)
    simp only [Instr.checkKey, Sem.run_bind, run_und h1, Result.andThen_ok]
    rw [← Array.forIn_toList]
    rw [key]
    rfl
theorem checkFs : ∀ (fs : List (Nat × Nat × TE)) {l : List V} {L : List Value}, eqFs fs l l = some true → X.Rvs μ l L → ∀ {gs : List Field}, FsTy X.P fs gs → ∀ (em : Bool) {d : Nat}, fsDeep fs ≤ d →
    ((forIn gs PUnit.unit fun (f : Field) (_ : PUnit) => (if f.name ≠ "_" then do
        Instr.checkKey em d f.type (← Go.part f.type L.toArray f.offset)
        pure (ForInStep.yield PUnit.unit)
      else pure (ForInStep.yield PUnit.unit) : Sem (ForInStep PUnit))) : Sem PUnit).run X.P w = .ok PUnit.unit w
  | [], l, L, q, hL, gs, hg, em, d, hd => by
    cases gs with
    | nil => rfl
    | cons g gs => exact hg.elim
  | (off, sz, te) :: fs, l, L, q, hL, gs, hg, em, d, hd => by
    cases gs with
    | nil => exact hg.elim
    | cons g gs =>
      obtain ⟨h1, h2, ⟨i, h3, h4⟩, h5, h6⟩ := hg
      obtain ⟨x, hx, q⟩ := obo_some.1 (show obo (partV te off sz l) (fun x => obo (partV te off sz l) fun y => obo (eqTE te x y) fun r => bc r (eqFs fs l l) (some false)) = some true from q)
      obtain ⟨y, hy, q⟩ := obo_some.1 q
      obtain ⟨r, hr, q⟩ := obo_some.1 q
      rw [hx] at hy
      cases hy
      cases r
      · cases q
      obtain ⟨A, hA, pA⟩ := partV_ok (w := w) hx hL h3 h4 h5
      have hd : te.deep ≤ d ∧ fsDeep fs ≤ d := by simp only [fsDeep] at hd; omega
      rw [List.forIn_cons, if_pos h1, h2, Sem.run_bind, Sem.run_bind, pA, Result.andThen_ok, Sem.run_bind, checkTE te hr hA h5 em hd.1, Result.andThen_ok, Sem.run_pure, Result.andThen_ok]
      exact checkFs fs q hL h6 em hd.2
end
theorem keyOk_ok {te : TE} {x : V} {r : Bool} (q : keyOk te x r = true) {A : Value} (ha : X.Rv μ x A) {kt : TypeId} (ht : TeTy X.P te kt) (hd : te.deep ≤ Go.Op.maxDepth) : r = true ∧ ∀ em, (Instr.checkKey em 10000 kt A).run X.P w = .ok () w := by
  unfold keyOk at q
  rw [bc_eq] at q
  split at q
  · obtain ⟨b, hb, q⟩ := ob_true.1 q
    obtain ⟨rfl, q⟩ := ok_true.1 q
    exact ⟨q, fun em => checkTE te hb ha ht em hd⟩
  · rename_i c
    refine ⟨q, fun em => ?_⟩
    cases te with
    | int => exact checkPrim (te := .int) ht em 9999 A
    | str => exact checkPrim (te := .str) ht em 9999 A
    | bool => exact checkPrim (te := .bool) ht em 9999 A
    | arr n e => exact absurd rfl c
    | st fs => exact absurd rfl c
end PH.R
/-
  The reckoner: the other quiet operations.
-/
namespace PH.R
open Go Go.RowKit
variable {X : Cx} {μ : Mu} {h : H} {ls : T (Option Lp)} {w0 w : World} {t : TV} {k : V → Bool}

theorem lookOut_ok (c : Bool) {v : V} {x : Value} (hv : X.Rv μ v x) (b : Bool) : X.Rv μ (lookOut c v b) (if c then .tuple #[x, .bool b] else x) := by
  cases c
  · exact hv
  · exact rv_tu_mk ((concs_cons X.ms).2 ⟨x, [.bool b], hv, rfl, rfl⟩)
theorem qLookup_ok (R : HRel X μ h ls w0 w) {te : TE} {z : V} {c : Bool} {m x : Xv} {M A : Value} (hm : X.Rv μ (m t) M) (ha : X.Rv μ (x t) A) (q : qLookup te z c m x t h k = true) {ty kt e : TypeId} {i : D.Ty} {inf : TypeInfo} (F : TyFacts X.P ty i inf (.map kt e))
    (ht : TeTy X.P te kt) (hd : te.deep ≤ Go.Op.maxDepth) {j : D.Ty} {inf' : TypeInfo} {d' : TypeDesc} (G : TyFacts X.P e j inf' d') (hz : j.zero = some z) : QR X μ w (Instr.lookup ty M A c) k := by
  obtain ⟨Z, hZ, hz'⟩ := G.run_zero (w := w) hz
  have hzr : X.Rv μ z Z := vOf_ok (X := X) (μ := μ) Z z hz'
  rcases asMp_true q with ⟨r, e1, q⟩ | ⟨e1, q⟩
  · rw [e1] at hm
    obtain ⟨en, he, rfl⟩ := rv_mp hm
    obtain ⟨es, cl, hb, q⟩ := asMap_true q
    obtain ⟨l, h1, h2⟩ := R.mapAt hb he
    obtain ⟨q, hck⟩ := keyOk_ok (w := w) q ha ht hd
    obtain ⟨f, hf, q⟩ := ob_true.1 q
    obtain ⟨Fo, hF, hrun⟩ := findKey_ok (w := w) ha ht hd hf h2
    cases f with
    | none =>
      cases Fo with
      | some a => exact hF.elim
      | none =>
        refine ⟨_, _, q, lookOut_ok c hzr false, ?_⟩
        unfold Instr.lookup
        rw [Sem.run_bind, F.run_und, Result.andThen_ok]
        simp only [Sem.run_bind, run_getObj h1 (by intros; simp), Result.andThen_ok, Sem.run_pure, hck, hrun, hZ]
    | some f =>
      cases Fo with
      | none => exact hF.elim
      | some a =>
        obtain ⟨j, v⟩ := f
        obtain ⟨j', v'⟩ := a
        refine ⟨_, _, q, lookOut_ok c hF.2 true, ?_⟩
        unfold Instr.lookup
        rw [Sem.run_bind, F.run_und, Result.andThen_ok]
        simp only [Sem.run_bind, run_getObj h1 (by intros; simp), Result.andThen_ok, Sem.run_pure, hck, hrun]
  · rw [e1] at hm
    cases rv_mn hm
    obtain ⟨q, hck⟩ := keyOk_ok (w := w) q ha ht hd
    refine ⟨_, _, q, lookOut_ok c hzr false, ?_⟩
    unfold Instr.lookup
    rw [Sem.run_bind, F.run_und, Result.andThen_ok]
    obtain ⟨d, hu⟩ := ht.und
    simp only [Sem.run_bind, Result.andThen_ok, Sem.run_pure, hck, Instr.findKey, run_und hu, Instr.findNow, hZ]

theorem qTass_ok {ty : Nat} {z : V} {c : Bool} {x : Xv} {A : Value} (ha : X.Rv μ (x t) A) (q : qTass ty z c x t h k = true) (xt : TypeId) {j : D.Ty} {inf : TypeInfo} {d : TypeDesc} (G : TyFacts X.P ty j inf d) (hd : ∀ m, d ≠ .interface m) (hz : j.zero = some z) : QR X μ w (Instr.typeAssert A xt ty c) k := by
  obtain ⟨Z, hZ, hz'⟩ := G.run_zero (w := w) hz
  have hzr : X.Rv μ z Z := vOf_ok (X := X) (μ := μ) Z z hz'
  rcases asIc_true q with ⟨ty', v, e1, q⟩ | ⟨e1, q⟩
  · rw [e1] at ha
    obtain ⟨y, hy, rfl⟩ := rv_ic ha
    have q2 : bc (Nat.beq ty ty') (k (lookOut c v true)) (ok c (k (.tu [z, .b false]))) = true := q
    clear q
    rw [bc_eq] at q2
    split at q2
    · rename_i e
      cases Nat.eq_of_beq_eq_true e
      refine ⟨_, _, q2, lookOut_ok c hy true, ?_⟩
      unfold Instr.typeAssert
      simp only [Sem.run_bind, G.run_und, Result.andThen_ok]
      cases d <;> first | exact absurd rfl (hd _) | (simp only [if_true]; rfl)
    · rename_i e
      have e : ¬ ty' = ty := fun c => e (by rw [c, Nat.beq_refl])
      obtain ⟨hc, q3⟩ := ok_true.1 q2
      subst hc
      refine ⟨_, _, q3, lookOut_ok true hzr false, ?_⟩
      unfold Instr.typeAssert
      simp only [Sem.run_bind, G.run_und, Result.andThen_ok]
      cases d <;> first | exact absurd rfl (hd _) | (simp only [if_neg e, if_true, Sem.run_bind, hZ, Result.andThen_ok, Sem.run_pure])
  · rw [e1] at ha
    cases rv_ni ha
    obtain ⟨hc, q3⟩ := ok_true.1 q
    subst hc
    refine ⟨_, _, q3, lookOut_ok true hzr false, ?_⟩
    unfold Instr.typeAssert
    simp only [Sem.run_bind, G.run_und, Result.andThen_ok]
    cases d <;> first | exact absurd rfl (hd _) | (simp only [if_true, Sem.run_bind, hZ, Result.andThen_ok, Sem.run_pure])

theorem qEntry_ok (R : HRel X μ h ls w0 w) {it : Xv} {A : Value} (ha : X.Rv μ (it t) A) (q : qEntry it t h k = true) : QR X μ w (Instr.entry A) k := by
  obtain ⟨r, o, e1, q⟩ := asP_true q
  rw [e1] at ha
  obtain ⟨en, he, rfl⟩ := rv_p ha
  split at q
  · rename_i m since born stepped hb
    obtain ⟨es, clock, hm, q⟩ := asMap_true q
    split at q
    · rename_i x v born'
      obtain ⟨c, q2⟩ := ok_true.1 q
      clear q
      simp only [Bool.and_eq_true, Nat.beq_eq] at c
      obtain ⟨⟨rfl, rfl⟩, rfl⟩ := c
      obtain ⟨ob, h1, r', rfl, hoff, em, hem, rfl⟩ := R.obj _ _ _ hb he
      obtain ⟨l, h2, h3⟩ := R.mapAt hm hem
      have hl : ∃ y, l = #[y] ∧ X.Rv μ x y.key ∧ X.Rv μ v y.val ∧ y.born = born := by
        cases l with
        | mk l =>
          cases l with
          | nil => exact h3.elim
          | cons y l =>
            cases l with
            | nil => exact ⟨y, rfl, h3.1, h3.2.1, h3.2.2.1⟩
            | cons z l => exact h3.2.2.2.elim
      obtain ⟨y, rfl, hk, hv, hbn⟩ := hl
      refine ⟨_, .tuple #[y.key, y.val], q2, rv_tu_mk (r := [y.key, y.val]) ((concs_cons X.ms).2 ⟨y.key, [y.val], hk, (concs_cons X.ms).2 ⟨y.val, [], hv, rfl, rfl⟩, rfl⟩), ?_⟩
      unfold Instr.entry
      simp only [Nat.add_zero, hoff, Sem.run_bind, run_getObj h1 (by intros; simp), Result.andThen_ok]
      simp only [List.back?_toArray, List.getLast?_singleton, Sem.run_bind, run_getObj h2 (by intros; simp), Result.andThen_ok]
      simp [hbn]
    · cases q
  · cases q

theorem forIn_bytes {P : Program} (n : Nat) : ∀ (j : Nat) (xs : List Value) (a : ByteArray), (∀ i, i < xs.length → xs[i]? = some (.int .u8 (byteAt n (j + i)))) →
    ((forIn xs a fun (c : Value) (s : ByteArray) => (match c with
        | .int .u8 n => pure (ForInStep.yield (s.push (UInt8.ofNat n.toNat)))
        | _ => do
          stuck "bytesToString: byte expected"
          pure (ForInStep.yield s) : Sem (ForInStep ByteArray))) : Sem ByteArray).run P w = .ok (a ++ ⟨((List.range xs.length).map fun i => UInt8.ofNat (byteAt n (j + i))).toArray⟩) w
  | j, [], a, _ => by
    rw [List.forIn_nil]
    show Result.ok a w = _
    congr 1
    apply bytes_ext
    simp
  | j, x :: xs, a, hx => by
    have h0 := hx 0 (by simp)
    rw [List.getElem?_cons_zero, Nat.add_zero] at h0
    cases h0
    rw [List.forIn_cons, Sem.run_bind]
    simp only [Sem.run_pure, Result.andThen_ok]
    rw [forIn_bytes n (j + 1) xs _ fun i hi => by
      have := hx (i + 1) (by simpa using hi)
      rw [List.getElem?_cons_succ] at this
      rw [this, show j + (i + 1) = j + 1 + i by omega]]
    congr 1
    apply bytes_ext
    rw [List.length_cons, List.range_succ_eq_map]
    simp [Function.comp_def, Nat.add_assoc, Nat.add_comm 1]
theorem forIn_bytesOf {P : Program} {n : Nat} {xs : List Value} (h : ∀ i, i < xs.length → xs[i]? = some (.int .u8 (byteAt n i))) :
    ((forIn xs.toArray ByteArray.empty fun (c : Value) (s : ByteArray) => (match c with
        | .int .u8 n => pure (ForInStep.yield (s.push (UInt8.ofNat n.toNat)))
        | _ => do
          stuck "bytesToString: byte expected"
          pure (ForInStep.yield s) : Sem (ForInStep ByteArray))) : Sem ByteArray).run P w = .ok (bytesOf xs.length n) w := by
  have := forIn_bytes (P := P) (w := w) n 0 xs ByteArray.empty fun i hi => by rw [h i hi, Nat.zero_add]
  rw [← Array.forIn_toList]
  show Sem.run P (forIn xs _ _) w = _
  rw [this]
  congr 1
  apply bytes_ext
  simp [bytesOf]
theorem qBS_ok (R : HRel X μ h ls w0 w) {x : Xv} {A : Value} (ha : X.Rv μ (x t) A) (q : qBS x t h k = true) {src dst e : TypeId} {i j j' : D.Ty} {inf inf' inf'' : TypeInfo} (F : TyFacts X.P src i inf (.slice e)) (G : TyFacts X.P dst j inf' .string) (E : TyFacts X.P e j' inf'' (.int .u8)) : QR X μ w (Go.convert src dst A) k := by
  have red : ∀ A, (∃ a l c, A = .slice a l c) → (Go.convert src dst A).run X.P w = (Conv.bytesToString A).run X.P w := by
    rintro _ ⟨a, l, c, rfl⟩
    unfold Go.convert
    rw [Sem.run_bind, F.run_und, Result.andThen_ok, Sem.run_bind, G.run_und, Result.andThen_ok]
    simp only [Sem.run_bind, E.run_und, Result.andThen_ok]
  rcases asSlN_true q with ⟨b, o, len, c, e1, q2⟩ | ⟨e1, q2⟩
  · rw [e1] at ha
    obtain ⟨en, a, cp, he, rfl, hadr⟩ := rv_sl' ha
    obtain ⟨r, fz, sz, el, hb, q3⟩ := asRow_true q2
    obtain ⟨cs, f, h1, h2⟩ := R.rowAt hb he
    obtain ⟨p, q4, hp, hin, hat, _⟩ := Row.part_true q3
    have key : ∃ n, k (.s len n) = true ∧ ∀ j, j < len → p.at j = some (.i .u8 (byteAt n j)) := by
      cases p with
      | li l =>
        obtain ⟨z, hz, q5⟩ := ob_true.1 (show ob (ofByteVs l) (fun z => mkS z.1 z.2 k) = true from q4)
        rw [mkS_eq] at q5
        obtain ⟨hz1, hz2⟩ := of_byteVs hz
        rw [Row.len_li] at hp
        rw [hp] at hz1
        rw [hz1] at q5
        refine ⟨z.2, q5, fun j hj => ?_⟩
        show l[j]? = _
        rw [← hz2 j, hz1]
        show (if j < len then some (V.i .u8 (byteAt z.2 j)) else none) = _
        rw [if_pos hj]
      | bs l n =>
        rw [Row.len_by] at hp
        subst hp
        refine ⟨n, q4, fun j hj => ?_⟩
        show (if j < l then some (V.i .u8 (byteAt n j)) else none) = _
        rw [if_pos hj]
    obtain ⟨n, q5, hn⟩ := key
    refine ⟨_, _, q5, rv_string X μ len n, ?_⟩
    rw [red _ ⟨_, _, _, rfl⟩]
    have hlen : p.list.length = len := by rw [Row.list_length, hp]
    obtain ⟨xs, hx1, hx2, hx3⟩ := h2.list (o := o) (n := len) (l := p.list) hlen hin fun j hj => by rw [Row.list_get, hat j hj]
    have hload : (loadCells a len).run X.P w = .ok xs.toArray w := by
      rcases Nat.eq_zero_or_pos len with h0 | h0
      · subst h0
        have : xs = [] := List.length_eq_zero_iff.1 hx1
        subst this
        rfl
      · rw [hadr h0, ← hx1]
        exact run_loadCells fun j hj => by rw [cell_at h1]; exact hx3 j (by omega)
    have hxs : ∀ i, i < xs.length → xs[i]? = some (.int .u8 (byteAt n i)) := fun i hi => by
      obtain ⟨y, hy, hr⟩ := rvs_nth hx2 (i := i) (v := .i .u8 (byteAt n i)) (by rw [Row.list_get]; exact hn i (by omega))
      rw [hy]
      cases rv_i hr; rfl
    unfold Conv.bytesToString
    simp only [Sem.run_bind, hload, Result.andThen_ok]
    refine Eq.trans (congrArg (fun r => Result.andThen r _) (forIn_bytesOf (P := X.P) (w := w) hxs)) ?_
    rw [Result.andThen_ok, hx1]
    rfl
  · rw [e1] at ha
    cases rv_sn ha
    refine ⟨_, _, q2, rv_string X μ 0 0, ?_⟩
    rw [red _ ⟨_, _, _, rfl⟩]
    rfl
theorem encode_ascii {n : Nat} (c : n < 128) : Utf8.encode (n : Int) = bytesOf 1 n := by
  have hv : Utf8.valid (n : Int) = true := by
    unfold Utf8.valid
    rw [Bool.or_eq_true, Bool.and_eq_true, decide_eq_true_eq, decide_eq_true_eq]
    exact .inl ⟨by omega, by omega⟩
  unfold Utf8.encode
  rw [hv]
  simp only [if_true, Int.toNat_natCast]
  rw [if_pos c]
  apply bytes_ext
  show [UInt8.ofNat n] = [UInt8.ofNat (byteAt n 0)]
  rw [byteAt_eq, Nat.pow_zero, Nat.div_one, Nat.mod_eq_of_lt (by omega)]
theorem qIS_ok {x : Xv} {A : Value} (ha : X.Rv μ (x t) A) (q : qIS x t h k = true) {src dst : TypeId} {i j : D.Ty} {inf inf' : TypeInfo} {d : TypeDesc} (F : TyFacts X.P src i inf d) (G : TyFacts X.P dst j inf' .string) : QR X μ w (Go.convert src dst A) k := by
  obtain ⟨ik, n, e1, q⟩ := asN_true q
  obtain ⟨c, q⟩ := ok_true.1 q
  have c : n < 128 := by simpa [Nat.blt_eq] using c
  rw [e1] at ha
  cases rv_i ha
  refine ⟨_, _, q, rv_string X μ 1 n, ?_⟩
  have e : ∀ z, (Conv.intToString (n : Int)).run X.P w = .ok z w → (Go.convert src dst (.int ik n)).run X.P w = .ok z w := fun z hz => by
    unfold Go.convert
    rw [Sem.run_bind, F.run_und, Result.andThen_ok, Sem.run_bind, G.run_und, Result.andThen_ok]
    simp only
    exact hz
  refine e _ ?_
  unfold Conv.intToString
  rw [Sem.run_pure, encode_ascii c]
theorem qArr_ok {n : Nat} {x : Xv} {A : Value} (ha : X.Rv μ (x t) A) (q : qArr n x t h k = true) {ty e : TypeId} {i : D.Ty} {inf : TypeInfo} (F : TyFacts X.P ty i inf (.array n e)) : QR X μ w (Instr.arrayAt ty A) k := by
  obtain ⟨b, o, len, c, e1, q⟩ := asSl_true q
  obtain ⟨c1, q⟩ := ok_true.1 q
  simp only [Bool.and_eq_true, Nat.ble_eq, Nat.blt_eq] at c1
  rw [e1] at ha
  obtain ⟨en, a, cp, he, rfl, hadr⟩ := rv_sl' ha
  rw [hadr (by omega)]
  refine ⟨_, _, q, rv_p_mk he, ?_⟩
  unfold Instr.arrayAt
  rw [Sem.run_bind, F.run_und, Result.andThen_ok]
  simp only
  rw [if_neg (by omega)]
  rfl
theorem qMm_ok {mx : Bool} {x : Xv} {xs : List Xv} {A : Value} {L : List Value} (ha : X.Rv μ (x t) A) (hl : X.Rvs μ (evs t xs) L) (q : qMm mx x xs t h k = true) (tys : Array TypeId) (rt : TypeId) : QR X μ w (if mx then Builtin.max_ tys rt (A :: L).toArray else Builtin.min_ tys rt (A :: L).toArray) k := by
  obtain ⟨ik, n, e1, q⟩ := asI_true q
  rw [e1] at ha
  cases rv_i ha
  obtain ⟨v, z, h1, h2, h3⟩ := mmGo_ok (w := w) mx ik q hl
  refine ⟨v, z, h1, h2, ?_⟩
  cases mx
  · exact h3
  · exact h3
theorem qUsd_ok {x : Xv} {A : Value} (ha : X.Rv μ (x t) A) (q : qUsd x t h k = true) (tys : Array TypeId) (rt : TypeId) : QR X μ w (Builtin.unsafeSliceData_ tys rt #[A]) k := by
  rcases asSlN_true q with ⟨b, o, len, c, e1, q2⟩ | ⟨e1, q2⟩
  · rw [e1] at ha
    obtain ⟨c1, q2⟩ := ok_true.1 q2
    have : ∃ e n, μ b = some e ∧ A = .slice (some ⟨e.blk, e.off + o, none⟩) len n ∧ 0 < n := by
      cases c with
      | k n => obtain ⟨e, h1, h2⟩ := rv_slk ha; exact ⟨e, n, h1, h2, by simpa [Nat.blt_eq] using c1⟩
      | op d o0 =>
        obtain ⟨e, h1, h2, h3⟩ := rv_slo ha
        have c1 : 0 < len := by simpa [Nat.blt_eq] using c1
        exact ⟨e, e.cap - d, h1, by rw [h3, if_neg (by omega)], by omega⟩
    obtain ⟨e, n, he, rfl, hn⟩ := this
    refine ⟨_, _, q2, rv_p_mk he, ?_⟩
    show Sem.run X.P (if n ≠ 0 then pure (Value.pointer (some ⟨e.blk, e.off + o, none⟩)) else _) w = _
    rw [if_pos (by omega)]
    rfl
  · rw [e1] at ha
    cases rv_sn ha
    exact ⟨_, _, q2, rfl, rfl⟩
end PH.R
/-
  The reckoner: quiet operations: what is held equal, what is built, what is seen as another type.
-/
namespace PH.R
open Go Go.RowKit
variable {X : Cx} {μ : Mu} {h : H} {ls : T (Option Lp)} {w0 w : World} {t : TV} {k : V → Bool}

/-! Aggregates -/
theorem rvs_cells' {v : V} {x : Value} (h : X.Rv μ v x) : X.Rvs μ (vcells v) x.cells.toList := by
  by_cases hs : ∃ l, v = .tu l
  · obtain ⟨l, rfl⟩ := hs
    obtain ⟨r, _, rfl⟩ := rv_tu h
    exact (concs_cons X.ms).2 ⟨_, [], h, rfl, rfl⟩
  · exact rvs_cells h fun l e => hs ⟨l, e⟩
theorem cells_size {v : V} {x : Value} (h : X.Rv μ v x) : x.cells.size = lenL (vcells v) 0 := by
  rw [lenL_zero, ← rvs_length (rvs_cells' h), Array.length_toList]
theorem foldl_lay : ∀ (l : List Value) (off j : Nat) (c : Array Value), (l.zipIdx j).foldl (fun cs (p : Value × Nat) => cs.setIfInBounds (off + p.2) p.1) c = layA c (off + j) l
  | [], _, _, _ => rfl
  | x :: l, off, j, c => by
    rw [List.zipIdx_cons, List.foldl_cons, foldl_lay l off (j + 1), layA]
    rfl
theorem rvs_lay {l x q : List V} {L : Array Value} {A : List Value} {off : Nat} (h : layL x off l = some q) (hl : X.Rvs μ l L.toList) (hx : X.Rvs μ x A) : X.Rvs μ q (layA L off A).toList := by
  obtain ⟨h1, h2, h3⟩ := layL_get h
  obtain ⟨a1, a2⟩ := (concs_iff X.ms).1 hl
  obtain ⟨b1, b2⟩ := (concs_iff X.ms).1 hx
  rw [Array.length_toList] at a1
  refine (concs_iff X.ms).2 ⟨by rw [Array.length_toList, layA_size, h2, a1], fun i v hv => ?_⟩
  rw [h3] at hv
  rw [Array.getElem?_toList, layA_get _ _ _ _ (by omega)]
  rw [b1]
  split at hv
  · rename_i c; rw [if_pos c]; exact b2 _ v hv
  · rename_i c; rw [if_neg c, ← Array.getElem?_toList]; exact a2 _ v hv
theorem fillP_ok {ev : Operand → Value} (R : HRel X μ h ls w0 w) (E : EvOk ev) {pl pl' : Nat → Option (Nat × Nat)} (hpl : ∀ i p, pl i = some p → pl' i = some p) {kk : List V → Bool} : ∀ {ps : List (Nat × Operand)} {ds : List (Nat × Nat × D.X)} {cells : List V} {L : Array Value},
    D.partsOf X.P.globals.size pl ps = some ds → (∀ p ∈ ps, XOk X μ t ev p.2) → X.Rvs μ cells L.toList → fillP t (sPs ds) cells kk = true → ∃ c C, kk c = true ∧ Instr.fill pl' L (ps.map fun p => (p.1, ev p.2)) = some C ∧ X.Rvs μ c C.toList
  | [], ds, cells, L, hd, _, hc, q => by cases hd; exact ⟨cells, L, q, rfl, hc⟩
  | (i, x) :: ps, ds, cells, L, hd, hx, hc, q => by
    simp only [D.partsOf] at hd
    split at hd
    · rename_i o s x' l h1 h2 h3
      cases hd
      obtain ⟨c1, q⟩ := ok_true.1 (show ok (Nat.beq (lenL (vcells (sX x' t)) 0) s) (ob (layL (vcells (sX x' t)) o cells) fun c => fillP t (sPs l) c kk) = true from q)
      obtain ⟨c, hlay, q⟩ := ob_true.1 q
      have hv : X.Rv μ (sX x' t) (ev x) := xOf_ok R E (hx (i, x) (by simp)) h2
      have hsz : (ev x).cells.size = (vcells (sX x' t)).length := by rw [cells_size hv, lenL_zero]
      have c1 : (vcells (sX x' t)).length = s := by rw [← lenL_zero]; exact Nat.eq_of_beq_eq_true c1
      have hlay' := rvs_lay hlay hc (rvs_cells' hv)
      obtain ⟨c', C, hk, hf, hr⟩ := fillP_ok R E hpl h3 (fun p hp => hx p (by simp [hp])) hlay' q
      refine ⟨c', C, hk, ?_, hr⟩
      have hle : o + (ev x).cells.size ≤ L.size := by
        have := (layL_get hlay).1
        skip
        have := rvs_length hc
        rw [Array.length_toList] at this
        omega
      rw [List.map_cons, Instr.fill, hpl _ _ h1]
      simp only
      rw [if_neg (by simp only [ne_eq, Bool.or_eq_true, decide_eq_true_eq]; omega)]
      rw [show ((ev x).cells.zipIdx.foldl (fun cs (p : Value × Nat) => cs.setIfInBounds (o + p.2) p.1) L) = layA L o (ev x).cells.toList from by
        rw [← Array.foldl_toList, Array.toList_zipIdx, foldl_lay]; rfl]
      exact hf
    · cases hd
theorem qBuild_ok {ev : Operand → Value} (R : HRel X μ h ls w0 w) (E : EvOk ev) {z : List V} {ps : List (Nat × Operand)} {ds : List (Nat × Nat × D.X)} {pl : Nat → Option (Nat × Nat)} (hd : D.partsOf X.P.globals.size pl ps = some ds) (hx : ∀ p ∈ ps, XOk X μ t ev p.2) (q : qBuild z (sPs ds) t h k = true) {ty : TypeId} {i : D.Ty} {inf : TypeInfo} {d : TypeDesc} (F : TyFacts X.P ty i inf d) (hz : i.cells = some z)
    (hpl : (∃ fs : Array Field, d = .struct fs ∧ ∀ n p, pl n = some p → ∃ f, fs[n]? = some f ∧ p.1 = f.offset ∧ (∃ fi, X.P.info? f.type = some fi ∧ p.2 = fi.size)) ∧ (∀ fs, d = .struct fs → ∀ f ∈ fs, ∃ fi, X.P.info? f.type = some fi) ∨ ∃ n e j inf' d', d = .array n e ∧ ∃ _ : TyFacts X.P e j inf' d', ∀ n, pl n = some (n * j.size, j.size)) : QR X μ w (Instr.build ty (ps.map fun p => (p.1, ev p.2)).toArray) k := by
  unfold D.Ty.cells at hz
  obtain ⟨z', hz', hzz⟩ := Option.map_eq_some_iff.1 hz
  obtain ⟨Z, hZ, hZ'⟩ := F.run_zero (w := w) hz'
  have hzr : X.Rv μ z' Z := vOf_ok (X := X) (μ := μ) Z z' hZ'
  have hcells := rvs_cells' hzr
  rw [hzz] at hcells
  rcases hpl with ⟨⟨fs, rfl, hpl⟩, hall⟩ | ⟨n, e, j, inf', d', rfl, G, hpl⟩
  · have hmap : ∀ (l : List Field), (∀ f ∈ l, ∃ fi, X.P.info? f.type = some fi) → (l.mapM fun f => (do pure (f.offset, ← Go.sizeOf f.type) : Sem (Nat × Nat))).run X.P w = .ok (l.map fun f => (f.offset, ((X.P.info? f.type).map (·.size)).getD 0)) w := by
      intro l
      induction l with
      | nil => intro _; rfl
      | cons f l ih =>
        intro hl
        obtain ⟨fi, hfi⟩ := hl f (by simp)
        rw [List.mapM_cons, Sem.run_bind, Sem.run_bind, run_size hfi, Result.andThen_ok, Sem.run_pure, Result.andThen_ok, Sem.run_bind, ih fun g hg => hl g (by simp [hg]), Result.andThen_ok, Sem.run_pure, List.map_cons, hfi]
        rfl
    obtain ⟨c, C, hk, hf, hr⟩ := fillP_ok (pl' := fun n => ((fs.toList.map fun f => (f.offset, ((X.P.info? f.type).map (·.size)).getD 0)).toArray)[n]?) R E (fun n p hp => by
      obtain ⟨f, h1, h2, fi, h3, h4⟩ := hpl n p hp
      simp only [List.getElem?_toArray, List.getElem?_map, Array.getElem?_toList, h1, Option.map_some, h3, Option.getD_some]
      rw [← h2, ← h4]) hd hx hcells q
    refine ⟨_, _, hk, rv_ag_mk hr, ?_⟩
    unfold Instr.build
    simp only [Sem.run_bind, hZ, Result.andThen_ok, F.run_und]
    have : (fs.mapM fun f => (do pure (f.offset, ← Go.sizeOf f.type) : Sem (Nat × Nat))).run X.P w = .ok (fs.toList.map fun f => (f.offset, ((X.P.info? f.type).map (·.size)).getD 0)).toArray w := by
      rw [Array.mapM_eq_mapM_toList, Sem.run_map, hmap fs.toList fun f hf => hall fs rfl f (by simpa using hf)]
      rfl
    simp only [this, Result.andThen_ok, hf, Sem.run_pure]
  · obtain ⟨c, C, hk, hf, hr⟩ := fillP_ok (pl' := fun n => some (n * j.size, j.size)) R E (fun n p hp => by rw [hpl n] at hp; exact hp) hd hx hcells q
    refine ⟨_, _, hk, rv_ag_mk hr, ?_⟩
    unfold Instr.build
    simp only [Sem.run_bind, hZ, Result.andThen_ok, F.run_und, G.run_size, hf, Sem.run_pure]
end PH.R
/-
  The reckoner: quiet operations: '==', nil checks, unsafe pointers.
-/
namespace PH.R
open Go Go.RowKit
variable {X : Cx} {μ : Mu} {h : H} {ls : T (Option Lp)} {w0 w : World} {t : TV} {k : V → Bool}

/-! '==' -/
/-- Values that are told apart by '==' of their type alone. -/
def Told : Value → Prop
  | .int .. | .float .. | .complex .. | .string _ => False
  | _ => True
theorem binOp_eql {A : Value} (h : Told A) (ty : TypeId) (B : Value) : Go.binOp .eql ty A B = (do pure (.bool (← Go.Op.equal ty A B))) := by
  cases A <;> first | exact h.elim | (cases B <;> rfl)
theorem binOp_neq {A : Value} (h : Told A) (ty : TypeId) (B : Value) : Go.binOp .neq ty A B = (do pure (.bool (!(← Go.Op.equal ty A B)))) := by
  cases A <;> first | exact h.elim | (cases B <;> rfl)
theorem qEqv_ok {neg : Bool} {m : V → V → Option Bool} {x y : Xv} {A B : Value} {ty : TypeId} (hm : ∀ b, m (x t) (y t) = some b → Told A ∧ (Go.Op.equal ty A B).run X.P w = .ok b w) (q : qEqv neg m x y t h k = true) :
    (∃ b, m (x t) (y t) = some b) ∧ QR X μ w (Go.binOp (if neg then .neq else .eql) ty A B) k := by
  obtain ⟨b, hb, q⟩ := ob_true.1 q
  rw [iB_eq] at q
  obtain ⟨h1, h2⟩ := hm b hb
  refine ⟨⟨b, hb⟩, _, _, q, rv_bool X μ _, ?_⟩
  cases neg
  · rw [if_neg (by simp), binOp_eql h1, Sem.run_bind, h2]; rfl
  · rw [if_pos rfl, binOp_neq h1, Sem.run_bind, h2]
    cases b <;> rfl
theorem eq_core {ty : TypeId} {A B : Value} {b : Bool} (h : ∀ d, (Go.Op.equalIn (d + 1 + 1) ty A B).run X.P w = .ok b w) : (Go.Op.equal ty A B).run X.P w = .ok b w := h 9998
section
variable {x y : V} {A B : Value} {b : Bool} {ty : TypeId}
theorem eqPtr_ok (q : eqPtr x y = some b) (ha : X.Rv μ x A) (hb : X.Rv μ y B) {e : TypeId} (hu : X.P.underlying ty = some (.pointer e)) {i : TypeInfo} (hi : X.P.info? e = some i) (hs : i.size ≠ 0) : Told A ∧ (Go.Op.equal ty A B).run X.P w = .ok b w := by
  cases x <;> cases y <;> first | (cases q; done) | skip
  · rename_i b1 o1 b2 o2
    rw [show eqPtr (.p b1 o1) (.p b2 o2) = bc (b1.beq b2) (some (Nat.beq o1 o2)) none from rfl, bc_eq] at q
    split at q
    · rename_i c
      cases Pa.beq_eq.1 c
      cases q
      obtain ⟨en, he, rfl⟩ := rv_p ha
      obtain ⟨en', he', rfl⟩ := rv_p hb
      rw [he] at he'
      cases he'
      refine ⟨trivial, eq_core fun d => ?_⟩
      simp only [Go.Op.equalIn, Sem.run_bind, run_und hu, Result.andThen_ok, run_size hi]
      rw [if_pos hs]
      unfold sameAddr
      rw [if_pos (by simp)]
      show Result.ok _ w = _
      congr 1
      apply Bool.eq_iff_iff.2
      rw [beq_iff_eq, Nat.beq_eq]
      constructor
      · intro e; have := congrArg Addr.off e; simp only at this; omega
      · intro e; rw [e]
    · cases q
  · cases q
    obtain ⟨en, he, rfl⟩ := rv_p ha
    cases rv_pn hb
    refine ⟨trivial, eq_core fun d => ?_⟩
    simp only [Go.Op.equalIn, Sem.run_bind, run_und hu, Result.andThen_ok]; rfl
  · cases q
    obtain ⟨en, he, rfl⟩ := rv_p hb
    cases rv_pn ha
    refine ⟨trivial, eq_core fun d => ?_⟩
    simp only [Go.Op.equalIn, Sem.run_bind, run_und hu, Result.andThen_ok]; rfl
  · cases q
    cases rv_pn ha; cases rv_pn hb
    refine ⟨trivial, eq_core fun d => ?_⟩
    simp only [Go.Op.equalIn, Sem.run_bind, run_und hu, Result.andThen_ok]; rfl
theorem eqNilP_ok (q : eqNilP x y = some b) (ha : X.Rv μ x A) (hb : X.Rv μ y B) {e : TypeId} (hu : X.P.underlying ty = some (.pointer e)) : Told A ∧ (Go.Op.equal ty A B).run X.P w = .ok b w := by
  cases x <;> cases y <;> first | (cases q; done) | skip
  · cases q
    obtain ⟨en, he, rfl⟩ := rv_p ha
    cases rv_pn hb
    refine ⟨trivial, eq_core fun d => ?_⟩
    simp only [Go.Op.equalIn, Sem.run_bind, run_und hu, Result.andThen_ok]; rfl
  · cases q
    obtain ⟨en, he, rfl⟩ := rv_p hb
    cases rv_pn ha
    refine ⟨trivial, eq_core fun d => ?_⟩
    simp only [Go.Op.equalIn, Sem.run_bind, run_und hu, Result.andThen_ok]; rfl
  · cases q
    cases rv_pn ha; cases rv_pn hb
    refine ⟨trivial, eq_core fun d => ?_⟩
    simp only [Go.Op.equalIn, Sem.run_bind, run_und hu, Result.andThen_ok]; rfl
theorem eqNilS_ok (q : eqNilS x y = some b) (ha : X.Rv μ x A) (hb : X.Rv μ y B) {e : TypeId} (hu : X.P.underlying ty = some (.slice e)) : Told A ∧ (Go.Op.equal ty A B).run X.P w = .ok b w := by
  cases x <;> cases y <;> first | (cases q; done) | skip
  · cases q
    obtain ⟨en, a, n, he, rfl, _⟩ := rv_sl' ha
    cases rv_sn hb
    refine ⟨trivial, eq_core fun d => ?_⟩
    simp only [Go.Op.equalIn, Sem.run_bind, run_und hu, Result.andThen_ok]; rfl
  · cases q
    obtain ⟨en, a, n, he, rfl, _⟩ := rv_sl' hb
    cases rv_sn ha
    refine ⟨trivial, eq_core fun d => ?_⟩
    simp only [Go.Op.equalIn, Sem.run_bind, run_und hu, Result.andThen_ok]; rfl
  · cases q
    cases rv_sn ha; cases rv_sn hb
    refine ⟨trivial, eq_core fun d => ?_⟩
    simp only [Go.Op.equalIn, Sem.run_bind, run_und hu, Result.andThen_ok]; rfl
theorem eqNilM_ok (q : eqNilM x y = some b) (ha : X.Rv μ x A) (hb : X.Rv μ y B) {kt e : TypeId} (hu : X.P.underlying ty = some (.map kt e)) : Told A ∧ (Go.Op.equal ty A B).run X.P w = .ok b w := by
  cases x <;> cases y <;> first | (cases q; done) | skip
  · cases q
    cases rv_mn ha; cases rv_mn hb
    refine ⟨trivial, eq_core fun d => ?_⟩
    simp only [Go.Op.equalIn, Sem.run_bind, run_und hu, Result.andThen_ok]; rfl
  · cases q
    obtain ⟨en, he, rfl⟩ := rv_mp hb
    cases rv_mn ha
    refine ⟨trivial, eq_core fun d => ?_⟩
    simp only [Go.Op.equalIn, Sem.run_bind, run_und hu, Result.andThen_ok]; rfl
  · cases q
    obtain ⟨en, he, rfl⟩ := rv_mp ha
    cases rv_mn hb
    refine ⟨trivial, eq_core fun d => ?_⟩
    simp only [Go.Op.equalIn, Sem.run_bind, run_und hu, Result.andThen_ok]; rfl
/-- What is a function that is not nil? -/
theorem fun_of {x : V} {A : Value} (h : (∃ f a c, x = .fu f a c) ∨ (∃ l, x = .fy l) ∨ ∃ n t a, x = .fm n t a) (ha : X.Rv μ x A) : ∃ f a c, A = .func f a c := by
  rcases h with ⟨f, a, c, rfl⟩ | ⟨l, rfl⟩ | ⟨n, t, a, rfl⟩
  · obtain ⟨_, _, _, _, rfl⟩ := rv_fu ha; exact ⟨_, _, _, rfl⟩
  · obtain ⟨_, _, rfl⟩ := rv_fy ha; exact ⟨_, _, _, rfl⟩
  · obtain ⟨_, _, _, rfl⟩ := rv_fm ha; exact ⟨_, _, _, rfl⟩
theorem eqNilF_ok (q : eqNilF x y = some b) (ha : X.Rv μ x A) (hb : X.Rv μ y B) {a1 a2 a3} (hu : X.P.underlying ty = some (.func a1 a2 a3)) : Told A ∧ (Go.Op.equal ty A B).run X.P w = .ok b w := by
  have core : (x = .fn ∧ y = .fn ∧ b = true) ∨ (x = .fn ∧ b = false ∧ ((∃ f a c, y = .fu f a c) ∨ (∃ l, y = .fy l) ∨ ∃ n t a, y = .fm n t a)) ∨ (y = .fn ∧ b = false ∧ ((∃ f a c, x = .fu f a c) ∨ (∃ l, x = .fy l) ∨ ∃ n t a, x = .fm n t a)) := by
    cases x <;> cases y <;> first | (cases q; done) | (cases q; first | exact .inl ⟨rfl, rfl, rfl⟩ | exact .inr (.inl ⟨rfl, rfl, .inl ⟨_, _, _, rfl⟩⟩) | exact .inr (.inl ⟨rfl, rfl, .inr (.inl ⟨_, rfl⟩)⟩) | exact .inr (.inl ⟨rfl, rfl, .inr (.inr ⟨_, _, _, rfl⟩)⟩) | exact .inr (.inr ⟨rfl, rfl, .inl ⟨_, _, _, rfl⟩⟩) | exact .inr (.inr ⟨rfl, rfl, .inr (.inl ⟨_, rfl⟩)⟩) | exact .inr (.inr ⟨rfl, rfl, .inr (.inr ⟨_, _, _, rfl⟩)⟩))
  rcases core with ⟨rfl, rfl, rfl⟩ | ⟨rfl, rfl, hf⟩ | ⟨rfl, rfl, hf⟩
  · cases rv_fn ha; cases rv_fn hb
    refine ⟨trivial, eq_core fun d => ?_⟩
    simp only [Go.Op.equalIn, Sem.run_bind, run_und hu, Result.andThen_ok]; rfl
  · cases rv_fn ha
    obtain ⟨_, _, _, rfl⟩ := fun_of hf hb
    refine ⟨trivial, eq_core fun d => ?_⟩
    simp only [Go.Op.equalIn, Sem.run_bind, run_und hu, Result.andThen_ok]; rfl
  · cases rv_fn hb
    obtain ⟨_, _, _, rfl⟩ := fun_of hf ha
    refine ⟨trivial, eq_core fun d => ?_⟩
    simp only [Go.Op.equalIn, Sem.run_bind, run_und hu, Result.andThen_ok]; rfl
theorem eqNilI_ok (q : eqNilI x y = some b) (ha : X.Rv μ x A) (hb : X.Rv μ y B) {m} (hu : X.P.underlying ty = some (.interface m)) : Told A ∧ (Go.Op.equal ty A B).run X.P w = .ok b w := by
  cases x <;> cases y <;> first | (cases q; done) | skip
  · cases q
    cases rv_ni ha; cases rv_ni hb
    refine ⟨trivial, eq_core fun d => ?_⟩
    simp only [Go.Op.equalIn, Sem.run_bind, run_und hu, Result.andThen_ok]; rfl
  · cases q
    obtain ⟨z, _, rfl⟩ := rv_ic hb
    cases rv_ni ha
    refine ⟨trivial, eq_core fun d => ?_⟩
    simp only [Go.Op.equalIn, Sem.run_bind, run_und hu, Result.andThen_ok]; rfl
  · cases q
    obtain ⟨z, _, rfl⟩ := rv_ic ha
    cases rv_ni hb
    refine ⟨trivial, eq_core fun d => ?_⟩
    simp only [Go.Op.equalIn, Sem.run_bind, run_und hu, Result.andThen_ok]; rfl
/-- The types whose values in interfaces are held equal. -/
def TsOk (P : Program) (ts : List (Nat × TE)) : Prop := ∀ u e, teFind u ts = some e → PrimTy P e u ∧ ∃ i, P.info? u = some i ∧ i.comparable = true
theorem eqIfc_ok {ts : List (Nat × TE)} (hts : TsOk X.P ts) (q : eqIfc ts x y = some b) (ha : X.Rv μ x A) (hb : X.Rv μ y B) {m} (hu : X.P.underlying ty = some (.interface m)) : Told A ∧ (Go.Op.equal ty A B).run X.P w = .ok b w ∧ ¬ (A = .nilIface ∧ B = .nilIface) := by
  cases x <;> cases y <;> first | (cases q; done) | skip
  · cases q
    obtain ⟨z, _, rfl⟩ := rv_ic hb
    cases rv_ni ha
    refine ⟨trivial, eq_core fun d => ?_, by simp⟩
    simp only [Go.Op.equalIn, Sem.run_bind, run_und hu, Result.andThen_ok]; rfl
  · cases q
    obtain ⟨z, _, rfl⟩ := rv_ic ha
    cases rv_ni hb
    refine ⟨trivial, eq_core fun d => ?_, by simp⟩
    simp only [Go.Op.equalIn, Sem.run_bind, run_und hu, Result.andThen_ok]; rfl
  · rename_i t1 v1 t2 v2
    rw [show eqIfc ts (.ic t1 v1) (.ic t2 v2) = bc (Nat.beq t1 t2) (obo (teFind t1 ts) fun e => primEq e v1 v2) (some false) from rfl, bc_eq] at q
    obtain ⟨z1, hz1, rfl⟩ := rv_ic ha
    obtain ⟨z2, hz2, rfl⟩ := rv_ic hb
    refine ⟨trivial, eq_core fun d => ?_, by simp⟩
    obtain ⟨d', hd'⟩ : ∃ e, e = d + 1 := ⟨_, rfl⟩
    rw [← hd']
    simp only [Go.Op.equalIn, Sem.run_bind, run_und hu, Result.andThen_ok]
    split at q
    · rename_i c
      cases Nat.eq_of_beq_eq_true c
      obtain ⟨e, he, q⟩ := obo_some.1 q
      obtain ⟨h1, i, h2, h3⟩ := hts _ _ he
      rw [if_neg (by simp)]
      have hti : (typeInfo t1).run X.P w = .ok i w := by
        unfold typeInfo
        simp only [Sem.run_bind, run_program, Result.andThen_ok, h2, Sem.run_pure]
      simp only [Sem.run_bind, hti, Result.andThen_ok, h3, Bool.not_true, Bool.false_eq_true, if_false]
      rw [hd']
      exact primEq_ok q hz1 hz2 h1 d
    · rename_i c
      cases q
      rw [if_pos (fun e => c (by rw [e, Nat.beq_refl]))]
      rfl
end

/-! Nil checks -/
/-- The methods are those of the program. -/
def MsOk (X : Cx) : Prop := ∀ name ty f rc, findM ty (X.ms name) = some (f, rc) → ∃ (i : TypeInfo) (m : Method) (p : Bool) (d : TypeDesc), X.P.info? ty = some i ∧ i.methods.find? (·.name == name) = some m ∧ m.path = #[] ∧ m.func = some (f, p) ∧ X.P.underlying ty = some d ∧
  (match rc with
  | .id => p = true ∧ (∃ e, d = .pointer e) ∨ p = false ∧ ∀ e, d ≠ .pointer e
  | .deref n => p = false ∧ ∃ e j inf d', d = .pointer e ∧ TyFacts X.P e j inf d' ∧ j.agg = n)
theorem run_typeInfo {P : Program} {ty : TypeId} {i : TypeInfo} (h : P.info? ty = some i) : (typeInfo ty).run P w = .ok i w := by
  unfold typeInfo
  simp only [Sem.run_bind, run_program, Result.andThen_ok, h, Sem.run_pure]
theorem nilAhead_ok (M : MsOk X) {name : String} {ty f : Nat} (h : findM ty (X.ms name) = some (f, .id)) (v : Value) (n : Nat) : (nilAhead (n + 1) ty v name).run X.P w = .ok (some false) w := by
  obtain ⟨i, m, p, d, h1, h2, h3, h4, h5, h6⟩ := M _ _ _ _ h
  unfold nilAhead
  simp only [Sem.run_bind, run_typeInfo h1, Result.andThen_ok, h2, h3, followBlind, h4, Sem.run_pure]
  rcases h6 with ⟨rfl, _⟩ | ⟨rfl, h6⟩
  · rfl
  · simp only [Sem.run_bind, run_und h5, Result.andThen_ok]
    cases d <;> first | rfl | exact absurd rfl (h6 _)
theorem qNilck_ok (M : MsOk X) {x : Xv} {A : Value} (ha : X.Rv μ (x t) A) (q : qNilck x t h k = true) {o : Oper} {ev : Operand → Value} {y : Operand} (ho : o.op = .nilCheck y) (hy : ev y = A) : ∃ v z, k v = true ∧ X.Rv μ v z ∧ (execOp ev o).run X.P w = .ok (.value z) w := by
  obtain ⟨q, hc⟩ := nilck_true q
  refine ⟨_, _, q, ha, ?_⟩
  unfold execOp
  rw [ho]
  simp only [hy]
  rcases hc with ⟨b, o, e⟩ | ⟨f, a, c, e⟩ | ⟨ty, v, e⟩ | ⟨n, tb, a, e, hm⟩ <;> rw [e] at ha
  · obtain ⟨en, he, rfl⟩ := rv_p ha; rfl
  · obtain ⟨r, s, _, _, rfl⟩ := rv_fu ha; rfl
  · obtain ⟨z, _, rfl⟩ := rv_ic ha; rfl
  · obtain ⟨r, h1, h2, rfl⟩ := rv_fm ha
    have : ∃ ty v f, a = [.ic ty v] ∧ findM ty tb = some (f, .id) := by
      cases a with
      | nil => cases hm
      | cons y l =>
        cases l with
        | cons z l => cases y <;> cases hm
        | nil =>
          cases y <;> first | (cases hm; done) | skip
          rename_i ty v
          have hm2 : (match findM ty tb with | some (_, .id) => true | _ => false) = true := hm
          split at hm2
          · rename_i f hf; exact ⟨ty, v, f, rfl, hf⟩
          · cases hm2
    obtain ⟨ty, v, f, rfl, hf⟩ := this
    obtain ⟨y1, r1, hy1, hr1, rfl⟩ := (concs_cons X.ms).1 h2
    cases hr1
    obtain ⟨z, _, rfl⟩ := rv_ic (X := X) (μ := μ) hy1
    subst h1
    simp only [List.getElem?_toArray, List.getElem?_cons_zero, Sem.run_bind, run_program, Result.andThen_ok]
    rw [show X.P.types.size + Made.depth = (X.P.types.size + 99) + 1 from rfl, nilAhead_ok M hf]
    rfl

/-! Unsafe pointers -/
theorem run_shape {c : Array Value} {el : TypeId} {f : Nat × Nat} {b : Nat} {P : Program} (hb : w.heap[b]? = some (.cells c el f)) : (shape b).run P w = .ok (some (el, c.size)) w := by
  show Result.ok (w.shape? b) w = _
  unfold World.shape?
  rw [hb]
theorem run_viewAt {c : Array Value} {el : TypeId} {f : Nat × Nat} {b : Nat} {P : Program} (hb : w.heap[b]? = some (.cells c el f)) : (viewAt b).run P w = .ok none w := by
  unfold viewAt
  rw [Sem.run_bind, run_shape hb, Result.andThen_ok]
  rfl
theorem run_seenAt {c : Array Value} {el : TypeId} {f : Nat × Nat} {b o : Nat} {P : Program} (hb : w.heap[b]? = some (.cells c el f)) : (Conv.seenAt ⟨b, o, none⟩).run P w = .ok ⟨b, o, none⟩ w := by
  unfold Conv.seenAt
  rw [Sem.run_bind, run_viewAt hb, Result.andThen_ok]
  rfl
theorem run_cellsIn {c : Array Value} {el : TypeId} {f : Nat × Nat} {b : Nat} {P : Program} (hb : w.heap[b]? = some (.cells c el f)) : (cellsIn b).run P w = .ok (some c.size) w := by
  unfold cellsIn
  rw [Sem.run_bind, run_shape hb, Result.andThen_ok]
  rfl
theorem qPU_ok (R : HRel X μ h ls w0 w) {x : Xv} {A : Value} (ha : X.Rv μ (x t) A) (q : qPU x t h k = true) {src dst e : TypeId} {i j j' : D.Ty} {inf inf' inf'' : TypeInfo} {d : TypeDesc} (F : TyFacts X.P src i inf (.pointer e)) (G : TyFacts X.P dst j inf' .unsafePointer) (E : TyFacts X.P e j' inf'' d) (hs : j'.size ≠ 0) : QR X μ w (Go.convert src dst A) k := by
  have red : ∀ a, (Go.convert src dst (.pointer a)).run X.P w = (Conv.unsafePointer src dst (.pointer a)).run X.P w := by
    intro a
    unfold Go.convert
    rw [Sem.run_bind, F.run_und, Result.andThen_ok, Sem.run_bind, G.run_und, Result.andThen_ok]
  rcases asPn_true q with ⟨b, o, e1, q2⟩ | ⟨e1, q2⟩
  · rw [e1] at ha
    obtain ⟨en, he, rfl⟩ := rv_p ha
    obtain ⟨r, fz, sz, el, hb, q3⟩ := asRow_true q2
    obtain ⟨c1, q4⟩ := ok_true.1 q3
    have c1 : o < r.len := by simpa [Nat.blt_eq] using c1
    obtain ⟨c, f, h1, h2⟩ := R.rowAt hb he
    refine ⟨_, _, q4, rv_p_mk he, ?_⟩
    rw [red]
    unfold Conv.unsafePointer
    rw [Sem.run_bind, F.run_und, Result.andThen_ok, Sem.run_bind, G.run_und, Result.andThen_ok]
    simp only [Sem.run_bind, run_seenAt h1, Result.andThen_ok, run_cellsIn h1, E.run_size]
    rw [if_neg]
    · rfl
    · have := h2.size
      simp only [hs, decide_false, Bool.false_or, ge_iff_le, Bool.and_eq_true, decide_eq_true_eq, Option.isNone_none, and_true]
      omega
  · rw [e1] at ha
    cases rv_pn ha
    refine ⟨_, _, q2, rfl, ?_⟩
    rw [red]
    unfold Conv.unsafePointer
    rw [Sem.run_bind, F.run_und, Result.andThen_ok, Sem.run_bind, G.run_und, Result.andThen_ok]
    rfl
theorem rowAt_self {P : Program} {e s cells : Nat} (hs : P.cellsOf e = s) (h0 : 0 < s) (hc : s ≤ cells) (n : Nat) : liesAt P (n + 1) e (cells / P.cellsOf e) 0 e 1 = true := by
  have h1 : 1 ≤ cells / s := (Nat.le_div_iff_mul_le h0).2 (by omega)
  have hsame : sameLayout P P.depth e e = true := by
    rw [show P.depth = (2 * (P.types.size + Made.depth) + 1) + 1 from rfl]
    unfold sameLayout
    simp
  unfold liesAt
  rw [Bool.or_eq_true]
  left
  rw [show P.depth = (2 * (P.types.size + Made.depth) + 1) + 1 from rfl] at hsame ⊢
  unfold rowAt
  simp only [hs, Nat.zero_div, Nat.zero_mod]
  rw [if_neg (by omega), Bool.or_eq_true]
  left
  simp only [beq_self_eq_true, Bool.true_and, Bool.and_eq_true, decide_eq_true_eq]
  exact ⟨by omega, hsame⟩
theorem qUP_ok (R : HRel X μ h ls w0 w) {n : Nat} {x : Xv} {A : Value} {u : TypeId} (ha : X.Rv μ (x t) A) (q : qUP u n x t h k = true) {src dst : TypeId} {i j j' : D.Ty} {inf inf' inf'' : TypeInfo} {d : TypeDesc} (F : TyFacts X.P src i inf .unsafePointer) (G : TyFacts X.P dst j inf' (.pointer u)) (E : TyFacts X.P u j' inf'' d) (hs : j'.size = n) : QR X μ w (Go.convert src dst A) k := by
  have red : ∀ a, (Go.convert src dst (.pointer a)).run X.P w = (Conv.unsafePointer src dst (.pointer a)).run X.P w := by
    intro a
    unfold Go.convert
    rw [Sem.run_bind, F.run_und, Result.andThen_ok, Sem.run_bind, G.run_und, Result.andThen_ok]
  rcases asPn_true q with ⟨b, o, e1, q2⟩ | ⟨e1, q2⟩
  · rw [e1] at ha
    obtain ⟨en, he, rfl⟩ := rv_p ha
    obtain ⟨r, fz, sz, el, hb, q3⟩ := asRow_true q2
    obtain ⟨c1, q4⟩ := ok_true.1 q3
    simp only [Bool.and_eq_true, Nat.beq_eq, Nat.ble_eq, Nat.blt_eq] at c1
    obtain ⟨⟨⟨⟨rfl, rfl⟩, rfl⟩, hn⟩, h0⟩ := c1
    obtain ⟨c, f, h1, h2⟩ := R.rowAt hb he
    refine ⟨_, _, q4, rv_p_mk he, ?_⟩
    have hoff := h2.zero rfl
    have hsz := h2.size
    rw [red]
    unfold Conv.unsafePointer
    rw [Sem.run_bind, F.run_und, Result.andThen_ok, Sem.run_bind, G.run_und, Result.andThen_ok]
    have hv : (variablesAt ⟨en.blk, en.off + 0, none⟩ u 1).run X.P w = .ok true w := by
      unfold variablesAt
      simp only [Sem.run_bind, run_program, Result.andThen_ok, run_shape h1, Sem.run_pure, hoff, Nat.add_zero]
      rw [show X.P.depth = (2 * (X.P.types.size + Made.depth) + 1) + 1 from rfl, rowAt_self (s := n) _ h0 (by omega)]
      unfold Program.cellsOf
      rw [E.info, ← hs, E.size]
      rfl
    simp only [Sem.run_bind, run_seenAt h1, Result.andThen_ok, E.run_size, hv]
    simp
  · rw [e1] at ha
    cases rv_pn ha
    refine ⟨_, _, q2, rfl, ?_⟩
    rw [red]
    unfold Conv.unsafePointer
    rw [Sem.run_bind, F.run_und, Result.andThen_ok, Sem.run_bind, G.run_und, Result.andThen_ok]
    rfl
end PH.R
/-
  The reckoner: operations that make a new object.
-/
namespace PH.R
open Go Go.RowKit
variable {X : Cx} {μ : Mu} {h : H} {ls : T (Option Lp)} {w0 w : World} {t : TV} {k : B → (Pa → V) → Bool}

/-- An operation made one new object, as the model's does. -/
def AR (X : Cx) (μ : Mu) (w : World) (s : Sem Value) (k : B → (Pa → V) → Bool) : Prop :=
  ∃ (x : B) (mk : Pa → V) (o : Obj) (z : Value) (w' : World) (off cap : Nat), k x mk = true ∧ s.run X.P w = .ok z w' ∧ (w'.heap = w.heap.push o ∧ w'.os = w.os ∧ w'.tape = w.tape ∧ w'.output = w.output) ∧
    ∀ n μ', Mu.le μ μ' → μ' n = some ⟨w.heap.size, off, cap⟩ → X.Rv μ' (mk n) z ∧ ObjRel X μ' x ⟨w.heap.size, off, cap⟩ o

theorem froz0 (i : Nat) : froz (0, 0) i = false := by unfold froz; simp
theorem run_newRow {P : Program} (el : TypeId) (c : Array Value) : (newRow el c).run P w = .ok ⟨w.heap.size, 0, none⟩ { w with heap := w.heap.push (.cells c el (0, 0)) } := rfl
/-- A new row that is not open. -/
theorem row_new0 {l : List V} {L : Array Value} (hl : X.Rvs μ l L.toList) (el : TypeId) (n : Nat) (cap : Nat) : ObjRel X μ (.row (.li l) 0 0 el) ⟨n, 0, cap⟩ (.cells L el (0, 0)) := by
  have hlen := rvs_length hl
  rw [Array.length_toList] at hlen
  refine ⟨L, (0, 0), rfl, rowRel_new (by rw [Row.len_li, hlen]; exact Nat.le_refl _) rfl (fun i _ => froz0 i) (fun i v hv => ?_) (fun h => absurd h (Nat.lt_irrefl _)) fun _ => rfl⟩
  obtain ⟨x, h1, h2⟩ := rvs_nth hl hv
  exact ⟨x, by rw [← Array.getElem?_toList]; exact h1, h2⟩
theorem cells_some {i : D.Ty} {z : List V} (h : i.cells = some z) : ∃ v, i.zero = some v ∧ vcells v = z := Option.map_eq_some_iff.1 h
theorem TyFacts.run_cells {P : Program} {ty : TypeId} {i : D.Ty} {inf : TypeInfo} {d : TypeDesc} (F : TyFacts P ty i inf d) {z : List V} (hz : i.cells = some z) (hP : X.P = P) : ∃ Z, (zeroValue ty).run P w = .ok Z w ∧ ∀ μ, X.Rvs μ z Z.cells.toList := by
  subst hP
  obtain ⟨v, hv, rfl⟩ := cells_some hz
  obtain ⟨Z, h1, h2⟩ := F.run_zero (w := w) hv
  exact ⟨Z, h1, fun μ => rvs_cells' (vOf_ok (X := X) (μ := μ) Z v h2)⟩

theorem aNew_ok {el : Nat} {z : List V} (q : aNew el z t k = true) {i : D.Ty} {inf : TypeInfo} {d : TypeDesc} (F : TyFacts X.P el i inf d) (hz : i.cells = some z) : AR X μ w (Instr.alloc el true (.tuple #[])) k := by
  obtain ⟨Z, h1, h2⟩ := F.run_cells (X := X) (w := w) hz rfl
  refine ⟨_, _, .cells Z.cells el (0, 0), .pointer (some ⟨w.heap.size, 0, none⟩), { w with heap := w.heap.push (.cells Z.cells el (0, 0)) }, 0, 0, q, ?_, ⟨rfl, rfl, rfl, rfl⟩, fun n μ' hle hn => ⟨?_, row_new0 (h2 μ') el _ _⟩⟩
  · unfold Instr.alloc
    rw [Sem.run_bind, h1, Result.andThen_ok]
    rfl
  · exact rv_p_mk (o := 0) hn
theorem aBox_ok {el n : Nat} {x : Xv} {A : Value} (ha : X.Rv μ (x t) A) (q : aBox el n x t k = true) : AR X μ w (Instr.box el A) k := by
  obtain ⟨_, q⟩ := ok_true.1 q
  refine ⟨_, _, .cells A.cells el (0, 0), .pointer (some ⟨w.heap.size, 0, none⟩), { w with heap := w.heap.push (.cells A.cells el (0, 0)) }, 0, 0, q, rfl, ⟨rfl, rfl, rfl, rfl⟩, fun n μ' hle hn => ⟨rv_p_mk (o := 0) hn, row_new0 (Cx.Rvs.mono (rvs_cells' ha) hle) el _ _⟩⟩
theorem aMap_ok (q : aMap t k = true) (ty : TypeId) : AR X μ w (Instr.makeMap ty none) k := by
  refine ⟨_, _, .map #[] 0, .map (some w.heap.size), { w with heap := w.heap.push (.map #[] 0) }, 0, 0, q, rfl, ⟨rfl, rfl, rfl, rfl⟩, fun n μ' hle hn => ⟨?_, ⟨#[], rfl, trivial⟩⟩⟩
  unfold Cx.Rv
  simp only [conc, hn, Option.map_some]

/-! Cells that repeat -/
theorem repCells_length (z : List V) : ∀ n, (repCells z n).length = n * z.length
  | 0 => by simp [repCells]
  | n + 1 => by rw [repCells, List.length_append, repCells_length z n, Nat.add_mul, Nat.one_mul, Nat.add_comm]
theorem repCells_get (z : List V) : ∀ (n i : Nat), (repCells z n)[i]? = if i < n * z.length then z[i % z.length]? else none
  | 0, i => by simp [repCells]
  | n + 1, i => by
    rw [repCells, List.getElem?_append, repCells_get z n]
    by_cases h : i < z.length
    · rw [if_pos h, if_pos (by rw [Nat.add_mul]; omega), Nat.mod_eq_of_lt h]
    · rw [if_neg h]
      by_cases c : i - z.length < n * z.length
      · rw [if_pos c, if_pos (by rw [Nat.add_mul]; omega), ← Nat.mod_eq_sub_mod (by omega)]
      · rw [if_neg c, if_neg (by rw [Nat.add_mul]; omega)]
theorem rvs_rep {z : List V} {Z : Array Value} (hz : X.Rvs μ z Z.toList) (n m : Nat) (hm : m = n * Z.size) : X.Rvs μ (repCells z n) ((Array.range m).map (Z[· % Z.size]!)).toList := by
  obtain ⟨h1, h2⟩ := (concs_iff X.ms).1 hz
  rw [Array.length_toList] at h1
  refine (concs_iff X.ms).2 ⟨by simp [repCells_length, hm, h1], fun i v hv => ?_⟩
  rw [repCells_get, ← h1] at hv
  split at hv
  · rename_i c
    obtain ⟨x, hx, hr⟩ := h2 _ v hv
    refine ⟨x, ?_, hr⟩
    rw [Array.getElem?_toList] at hx
    rw [Array.getElem?_toList, Array.getElem?_map, Array.getElem?_range, if_pos (by rw [hm]; exact c), Option.map_some, Array.getElem!_eq_getD, Array.getD_eq_getD_getElem?, hx]
    rfl
  · cases hv
theorem run_askRoom {P : Program} (n : Nat) : (askRoom n).run P w = .ok () w := by
  unfold askRoom
  split <;> rfl
theorem big_i64 : big ≤ maxN .i64 := by decide
theorem wrap_big {n : Nat} (h : n ≤ big) : IntKind.i64.wrap (n : Int) = n := wrap_small .i64 n (Nat.le_trans h big_i64)
theorem run_makeSlice {ty e : TypeId} {i j : D.Ty} {inf inf' : TypeInfo} {d' : TypeDesc} {P : Program} (F : TyFacts P ty i inf (.slice e)) (G : TyFacts P e j inf' d') {Z : Value} (hZ : (zeroValue e).run P w = .ok Z w) {ik ik' : IntKind} {l c : Nat} (hl : l ≤ c) (hc : c ≤ big) (hb : c * j.bytes ≤ big) (hs : j.size = Z.cells.size) :
    (Instr.makeSlice ty (.int ik l) (.int ik' c)).run P w = .ok (.slice (some ⟨w.heap.size, 0, none⟩) l c) { w with heap := w.heap.push (.cells ((Array.range (c * j.size)).map (Z.cells[· % Z.cells.size]!)) e (0, 0)) } := by
  unfold Instr.makeSlice
  rw [Sem.run_bind, F.run_und, Result.andThen_ok]
  simp only [Sem.run_bind, run_asInt, Result.andThen_ok, PH.R.run_typeInfo G.info, wrap_big hc, wrap_big (Nat.le_trans hl hc), ← G.bytes]
  rw [if_neg]
  · simp only [Sem.run_bind, Int.toNat_natCast, run_askRoom, Result.andThen_ok, G.run_size]
    by_cases h0 : c * j.size = 0
    · rw [if_pos h0]
      have e0 : ∀ f : Nat → Value, (Array.range 0).map f = #[] := fun f => by simp
      simp only [Sem.run_bind, Sem.run_pure, Result.andThen_ok, run_newRow, h0, e0]
    · rw [if_neg h0]
      simp only [Sem.run_bind, hZ, Sem.run_pure, Result.andThen_ok, run_newRow]
  · have : (j.bytes : Int) * c ≤ 2 ^ 48 := by
      have h1 : (j.bytes * c : Nat) ≤ big := by rw [Nat.mul_comm]; exact hb
      have h2 : ((j.bytes * c : Nat) : Int) ≤ (big : Int) := by exact_mod_cast h1
      rw [Int.natCast_mul] at h2
      have h3 : (big : Int) ≤ 2 ^ 48 := by decide
      omega
    simp only [Bool.or_eq_true, decide_eq_true_eq, not_or]
    omega
theorem aMkSl_ok {el sz bytes : Nat} {z : List V} {l c : Xv} {A B : Value} (ha : X.Rv μ (l t) A) (hb : X.Rv μ (c t) B) (q : aMkSl el sz bytes z l c t k = true) {ty : TypeId} {i j : D.Ty} {inf inf' : TypeInfo} {d' : TypeDesc} (F : TyFacts X.P ty i inf (.slice el)) (G : TyFacts X.P el j inf' d') (hz : j.cells = some z) (hs : j.size = sz) (hby : j.bytes = bytes) : AR X μ w (Instr.makeSlice ty A B) k := by
  obtain ⟨ik, n, e1, q⟩ := asN_true q
  obtain ⟨ik', m, e2, q⟩ := asN_true q
  obtain ⟨c1, q⟩ := ok_true.1 q
  rw [e1] at ha; rw [e2] at hb
  cases rv_i ha; cases rv_i hb
  simp only [Bool.and_eq_true, Nat.ble_eq, Nat.beq_eq, lenL_zero] at c1
  obtain ⟨⟨c1, c2⟩, c3⟩ := c1
  have c2 : m * (bytes + sz + 1) ≤ big := c2
  obtain ⟨Z, h1, h2⟩ := G.run_cells (X := X) (w := w) hz rfl
  have hZs : Z.cells.size = sz := by rw [← c3, ← rvs_length (h2 μ), Array.length_toList]
  have hm1 : m ≤ big := Nat.le_trans (Nat.le_mul_of_pos_right m (by omega)) c2
  have hm2 : m * j.bytes ≤ big := Nat.le_trans (Nat.mul_le_mul_left m (by omega)) c2
  refine ⟨_, _, _, _, _, 0, 0, q, run_makeSlice F G h1 c1 hm1 hm2 (by omega), ⟨rfl, rfl, rfl, rfl⟩, fun n' μ' hle hn => ⟨rv_slk_mk (o := 0) hn, row_new0 ?_ el _ _⟩⟩
  exact rvs_rep (h2 μ') m _ (by rw [hs, hZs])
theorem isU8_some {i : D.Ty} (h : D.isU8 i = true) : i.k = .int .u8 ∧ i.size = 1 ∧ i.bytes = 1 ∧ i.zero = some (.i .u8 0) := by
  unfold D.isU8 at h
  split at h
  · exact ⟨rfl, rfl, rfl, rfl⟩
  · cases h
theorem zero_u8 {n j : Nat} : (Row.bs n 0).at j = if j < n then some (.i .u8 0) else none := by
  show (if j < n then some (V.i .u8 (byteAt 0 j)) else none) = _
  rw [byteAt_eq]
  simp
theorem aMkBy_ok {el : Nat} {l c : Xv} {A B : Value} (ha : X.Rv μ (l t) A) (hb : X.Rv μ (c t) B) (q : aMkBy el l c t k = true) {ty : TypeId} {i j : D.Ty} {inf inf' : TypeInfo} {d' : TypeDesc} (F : TyFacts X.P ty i inf (.slice el)) (G : TyFacts X.P el j inf' d') (h8 : D.isU8 j = true) : AR X μ w (Instr.makeSlice ty A B) k := by
  obtain ⟨ik, n, e1, q⟩ := asN_true q
  obtain ⟨ik', m, e2, q⟩ := asN_true q
  obtain ⟨c1, q⟩ := ok_true.1 q
  rw [e1] at ha; rw [e2] at hb
  cases rv_i ha; cases rv_i hb
  simp only [Bool.and_eq_true, Nat.ble_eq] at c1
  obtain ⟨g1, g2, g3, g4⟩ := isU8_some h8
  obtain ⟨Z, h1, h2⟩ := G.run_cells (X := X) (w := w) (z := [.i .u8 0]) (by unfold D.Ty.cells; rw [g4]; rfl) rfl
  have hZs : Z.cells.size = 1 := by rw [← Array.length_toList, rvs_length (h2 μ)]; rfl
  refine ⟨_, _, _, _, _, 0, 0, q, run_makeSlice F G h1 c1.1 c1.2 (by rw [g3, Nat.mul_one]; exact c1.2) (by omega), ⟨rfl, rfl, rfl, rfl⟩, fun n' μ' hle hn => ⟨rv_slk_mk (o := 0) hn, ?_⟩⟩
  have hr := rvs_rep (h2 μ') m (m * j.size) (by rw [g2, hZs])
  have hlen := rvs_length hr
  rw [Array.length_toList, repCells_length] at hlen
  simp only [List.length_singleton, Nat.mul_one] at hlen
  refine ⟨_, (0, 0), rfl, rowRel_new (by rw [Row.len_by, hlen]; exact Nat.le_refl _) rfl (fun i _ => froz0 i) (fun i v hv => ?_) (fun h => absurd h (Nat.lt_irrefl _)) fun _ => rfl⟩
  rw [zero_u8] at hv
  split at hv
  · rename_i hi
    cases hv
    obtain ⟨x, a1, a2⟩ := rvs_nth hr (i := i) (v := .i .u8 0) (by rw [repCells_get, if_pos (by simpa using hi)]; simp [Nat.mod_one])
    exact ⟨x, by rw [← Array.getElem?_toList]; exact a1, a2⟩
  · cases hv

/-! Slices of texts -/
theorem run_appendCap {P : Program} (need el : Nat) : ∃ c, need ≤ c ∧ (choose (.appendCap need 0 el)).run P w = .ok c { w with drawn := w.drawn + 1 } := by
  refine ⟨_, ?_, rfl⟩
  exact Nat.le_add_right _ _
theorem u8s_at {len n : Nat} (i : Nat) : ((bytesOf len n).data.map fun b => Value.int .u8 b.toNat)[i]? = if i < len then some (.int .u8 (byteAt n i)) else none := by
  rw [Array.getElem?_map]
  have := bytesL_get len n i
  rw [show (bytesOf len n).data[i]? = (bytesL len n)[i]? from by rw [bytesOf_eq]; simp]
  rw [this]
  split
  · rw [Option.map_some, u8_toNat]
  · rfl
theorem aSB_ok {el : Nat} {x : Xv} {A : Value} (ha : X.Rv μ (x t) A) (q : aSB el x t k = true) {src dst : TypeId} {i j j' : D.Ty} {inf inf' inf'' : TypeInfo} (F : TyFacts X.P src i inf .string) (G : TyFacts X.P dst j inf' (.slice el)) (E : TyFacts X.P el j' inf'' (.int .u8)) : AR X μ w (Go.convert src dst A) k := by
  obtain ⟨len, n, e1, q⟩ := asS_true q
  rw [e1] at ha
  cases rv_s ha
  obtain ⟨c, hc, hrun⟩ := run_appendCap (P := X.P) (w := w) len el
  have hsz : ((bytesOf len n).data.map fun b => Value.int .u8 b.toNat).size = len := by rw [Array.size_map]; exact bytesOf_size len n
  let C : Array Value := ((bytesOf len n).data.map fun b => Value.int .u8 b.toNat) ++ Array.replicate (c - len) (Value.int .u8 0)
  have hC : C.size = c := by
    show (_ ++ _ : Array Value).size = c
    rw [Array.size_append, hsz, Array.size_replicate]; omega
  refine ⟨_, _, .cells C el (c, c + 1), .slice (some ⟨w.heap.size, 0, none⟩) len c, { w with heap := w.heap.push (.cells C el (c, c + 1)), drawn := w.drawn + 1 }, 0, c, q, ?_, ⟨rfl, rfl, rfl, rfl⟩, fun n' μ' hle hn => ⟨?_, ?_⟩⟩
  · have red : (Go.convert src dst (.string (bytesOf len n))).run X.P w = (Conv.stringToBytes el (bytesOf len n)).run X.P w := by
      unfold Go.convert
      rw [Sem.run_bind, F.run_und, Result.andThen_ok, Sem.run_bind, G.run_und, Result.andThen_ok]
      simp only [Sem.run_bind, E.run_und, Result.andThen_ok]
    rw [red]
    unfold Conv.stringToBytes
    rw [bytesOf_size, Sem.run_bind, hrun, Result.andThen_ok]
    simp only [Sem.run_bind, run_newRow, Result.andThen_ok]
    unfold markStringish
    have hsh : ∀ (w' : World), w'.heap = w.heap.push (.cells C el (0, 0)) → (shape w.heap.size).run X.P w' = .ok (some (el, c)) w' := fun w' hw => by
      rw [← hC]
      exact run_shape (f := (0, 0)) (by rw [hw]; simp)
    rw [Sem.run_bind, hsh _ rfl, Result.andThen_ok]
    show Result.ok _ (World.freeze _ _ _) = _
    congr 1
    unfold World.freeze
    rw [if_neg (by decide)]
    congr 1
    apply Array.ext_getElem?
    intro a
    rw [Array.getElem?_modify]
    simp only [Array.getElem?_push]
    by_cases e : w.heap.size = a
    · subst e
      simp
      rfl
    · rw [if_neg e, if_neg (fun h => e h.symm), if_neg (fun h => e h.symm)]
  · have := rv_slo_mk (X := X) (μ := μ') (b := n') (o := 0) (l := len) (d := 0) (o0 := 0) hn (by simpa using hc)
    simpa using this
  · refine ⟨C, (c, c + 1), rfl, rowRel_new (by rw [Row.len_li, byteVs_length, hC]; exact hc) rfl (fun i hi => ?_) (fun i v hv => ?_) (fun _ => ⟨by rw [Row.len_li, byteVs_length]; simpa using hc, by rw [hC]; simp⟩) fun h => by cases h⟩
    · unfold froz
      rw [hC] at hi
      rw [decide_eq_false (by simp only; omega)]
      rfl
    · have hv : (byteVs n len 0)[i]? = some v := hv
      rw [byteVs_get, Nat.zero_add] at hv
      split at hv
      · rename_i hi
        cases hv
        refine ⟨_, ?_, rv_int X μ' .u8 (byteAt n i)⟩
        show (_ ++ _ : Array Value)[i]? = _
        rw [Array.getElem?_append_left (by rw [hsz]; exact hi), u8s_at, if_pos hi]
      · cases hv
end PH.R
/-
  The reckoner: operations that make a new object, the rest.
-/
namespace PH.R
open Go Go.RowKit
variable {X : Cx} {μ : Mu} {h : H} {ls : T (Option Lp)} {w0 w : World} {t : TV} {k : B → (Pa → V) → Bool}

theorem aBslice_ok {ev : Operand → Value} (R : HRel X μ h ls w0 w) (E : EvOk ev) {el sz len : Nat} {z : List V} {ps : List (Nat × Operand)} {ds : List (Nat × Nat × D.X)} (hd : D.partsOf X.P.globals.size (fun i => some (i * sz, sz)) ps = some ds) (hx : ∀ p ∈ ps, XOk X μ t ev p.2) (q : aBslice el sz len z (sPs ds) t k = true)
    {ty : TypeId} {i j : D.Ty} {inf inf' : TypeInfo} {d' : TypeDesc} (F : TyFacts X.P ty i inf (.slice el)) (G : TyFacts X.P el j inf' d') (hz : j.cells = some z) (hs : j.size = sz) (hsmall : ¬ len * sz > 16777216) : AR X μ w (Instr.buildSlice ty len (ps.map fun p => (p.1, ev p.2)).toArray) k := by
  obtain ⟨c1, q⟩ := ok_true.1 q
  simp only [Nat.beq_eq, lenL_zero] at c1
  obtain ⟨Z, h1, h2⟩ := G.run_cells (X := X) (w := w) hz rfl
  have hZs : Z.cells.size = sz := by rw [← c1, ← rvs_length (h2 μ), Array.length_toList]
  have hr := rvs_rep (h2 μ) len (len * sz) (by rw [hZs])
  obtain ⟨c, C, hk, hf, hc⟩ := fillP_ok (pl' := fun i => some (i * sz, sz)) (kk := fun l => k (.row (.li l) 0 0 el) fun n => .sl n 0 len (.k len)) R E (fun _ _ h => h) hd hx hr q
  refine ⟨_, _, .cells C el (0, 0), .slice (some ⟨w.heap.size, 0, none⟩) len len, { w with heap := w.heap.push (.cells C el (0, 0)) }, 0, 0, hk, ?_, ⟨rfl, rfl, rfl, rfl⟩, fun n μ' hle hn => ⟨rv_slk_mk (o := 0) hn, row_new0 (Cx.Rvs.mono hc hle) el _ _⟩⟩
  unfold Instr.buildSlice
  rw [Sem.run_bind, F.run_und, Result.andThen_ok]
  simp only [Sem.run_bind, G.run_size, Result.andThen_ok, hs]
  rw [if_neg hsmall]
  by_cases h0 : len * sz = 0
  · rw [if_pos h0]
    have e0 : ∀ f : Nat → Value, (Array.range 0).map f = #[] := fun f => by simp
    rw [h0, e0] at hf
    simp only [h0, e0, Sem.run_bind, Sem.run_pure, Result.andThen_ok, hf, run_newRow]
  · rw [if_neg h0]
    simp only [Sem.run_bind, h1, Sem.run_pure, Result.andThen_ok, hf, run_newRow]

/-! Runes -/
theorem ascii_at {n : Nat} : ∀ {k i : Nat}, ascii n k i = true → ∀ j, j < k → byteAt n (i + j) < 128
  | 0, _, _, j, hj => absurd hj (Nat.not_lt_zero j)
  | k + 1, i, h, j, hj => by
    obtain ⟨h1, h2⟩ := (Bool.and_eq_true ..).mp (show (Nat.blt (byteAt n i) 128 && ascii n k (i + 1)) = true from h)
    cases j with
    | zero => rw [Nat.add_zero]; simpa [Nat.blt_eq] using h1
    | succ j => have := ascii_at h2 j (by omega); rwa [show i + 1 + j = i + (j + 1) by omega] at this
theorem decode_ascii {len n i : Nat} (hi : i < len) (ha : byteAt n i < 128) : Utf8.decode (bytesOf len n) i = (byteAt n i, 1) := by
  have hg : ((bytesOf len n).get! (i + 0)).toNat = byteAt n i := by
    have := bytesOf_get len n i
    rw [if_pos hi] at this
    rw [Nat.add_zero]
    have e : (bytesOf len n).get! i = UInt8.ofNat (byteAt n i) := by
      show (bytesOf len n).data[i]! = _
      rw [Array.getElem!_eq_getD, Array.getD_eq_getD_getElem?]
      rw [show (bytesOf len n).data[i]? = (bytesL len n)[i]? from by rw [bytesOf_eq]; simp, bytesL_get, if_pos hi]
      rfl
    rw [e, u8_toNat]
  unfold Utf8.decode
  simp only [hg]
  rw [if_pos (by omega)]
theorem runesFrom_ascii {len n : Nat} : ∀ (b i : Nat) (acc : Array Value), i + b = len → (∀ j, j < len → byteAt n j < 128) →
    Conv.runesFrom (bytesOf len n) b i acc = acc ++ ((List.range b).map fun j => Value.int .i32 (byteAt n (i + j))).toArray
  | 0, i, acc, _, _ => by simp [Conv.runesFrom]
  | b + 1, i, acc, h, ha => by
    rw [Conv.runesFrom, bytesOf_size, if_pos (by omega), decode_ascii (by omega) (ha i (by omega))]
    simp only
    rw [runesFrom_ascii b (i + 1) _ (by omega) ha, List.range_succ_eq_map]
    apply Array.ext'
    simp only [Array.toList_append, Array.toList_push, List.map_cons, List.map_map, List.append_assoc, List.singleton_append, Nat.add_zero]
    congr 2
    apply List.map_congr_left
    intro a _
    show Value.int .i32 (byteAt n (i + 1 + a)) = Value.int .i32 (byteAt n (i + (a + 1)))
    rw [show i + 1 + a = i + (a + 1) by omega]
theorem runeVs_get (n k j : Nat) : (runeVs n k 0)[j]? = if j < k then some (V.i .i32 (byteAt n j)) else none := by
  rw [runeVs_eq, List.getElem?_map]
  by_cases h : j < k
  · rw [List.getElem?_range h, if_pos h, Option.map_some, Nat.zero_add]
  · rw [List.getElem?_eq_none (by simpa using h), if_neg h]; rfl
theorem runeVs_length (n k : Nat) : (runeVs n k 0).length = k := by rw [runeVs_eq]; simp
theorem aSR_ok {el : Nat} {x : Xv} {A : Value} (ha : X.Rv μ (x t) A) (q : aSR el x t k = true) {src dst : TypeId} {i j j' : D.Ty} {inf inf' inf'' : TypeInfo} (F : TyFacts X.P src i inf .string) (G : TyFacts X.P dst j inf' (.slice el)) (E : TyFacts X.P el j' inf'' (.int .i32)) : AR X μ w (Go.convert src dst A) k := by
  obtain ⟨len, n, e1, q⟩ := asS_true q
  obtain ⟨has, q⟩ := ok_true.1 q
  rw [e1] at ha
  cases rv_s ha
  have hasc : ∀ j, j < len → byteAt n j < 128 := fun j hj => by have := ascii_at has j hj; rwa [Nat.zero_add] at this
  obtain ⟨c, hc, hrun⟩ := run_appendCap (P := X.P) (w := w) len el
  have hrunes : Conv.runesFrom (bytesOf len n) len 0 #[] = ((List.range len).map fun j => Value.int .i32 (byteAt n j)).toArray := by
    rw [runesFrom_ascii len 0 #[] (by omega) hasc]
    simp
  have hsz : (((List.range len).map fun j => Value.int .i32 (byteAt n j)).toArray).size = len := by simp
  let C : Array Value := ((List.range len).map fun j => Value.int .i32 (byteAt n j)).toArray ++ Array.replicate (c - len) (Value.int .i32 0)
  have hC : C.size = c := by
    show (_ ++ _ : Array Value).size = c
    rw [Array.size_append, hsz, Array.size_replicate]; omega
  refine ⟨_, _, .cells C el (0, 0), .slice (some ⟨w.heap.size, 0, none⟩) len c, { w with heap := w.heap.push (.cells C el (0, 0)), drawn := w.drawn + 1 }, 0, c, q, ?_, ⟨rfl, rfl, rfl, rfl⟩, fun n' μ' hle hn => ⟨?_, ?_⟩⟩
  · have red : (Go.convert src dst (.string (bytesOf len n))).run X.P w = (Conv.stringToRunes el (bytesOf len n)).run X.P w := by
      unfold Go.convert
      rw [Sem.run_bind, F.run_und, Result.andThen_ok, Sem.run_bind, G.run_und, Result.andThen_ok]
      simp only [Sem.run_bind, E.run_und, Result.andThen_ok]
    rw [red]
    unfold Conv.stringToRunes
    simp only [bytesOf_size, hrunes, hsz]
    rw [Sem.run_bind, hrun, Result.andThen_ok]
    simp only [Sem.run_bind, run_newRow, Result.andThen_ok]
    rfl
  · have := rv_slo_mk (X := X) (μ := μ') (b := n') (o := 0) (l := len) (d := 0) (o0 := 0) hn (by simpa using hc)
    simpa using this
  · refine ⟨C, (0, 0), rfl, rowRel_new (by rw [Row.len_li, runeVs_length, hC]; exact hc) rfl (fun i _ => froz0 i) (fun i v hv => ?_) (fun _ => ⟨by rw [Row.len_li, runeVs_length]; simpa using hc, by rw [hC]; simp⟩) fun h => by cases h⟩
    have hv : (runeVs n len 0)[i]? = some v := hv
    rw [runeVs_get] at hv
    split at hv
    · rename_i hi
      cases hv
      refine ⟨_, ?_, rv_int X μ' .i32 (byteAt n i)⟩
      show (_ ++ _ : Array Value)[i]? = _
      rw [Array.getElem?_append_left (by rw [hsz]; exact hi), List.getElem?_toArray, List.getElem?_map, List.getElem?_range hi]
      rfl
    · cases hv
end PH.R
/-
  The reckoner: loud operations: what they answer; stores; maps.
-/
namespace PH.R
open Go Go.RowKit
variable {X : Cx} {μ : Mu} {h : H} {ls : T (Option Lp)} {w0 w : World} {t : TV} {k : Out → Bool}

/-- What a loud operation answers, and what the model's does. -/
def LR (X : Cx) (μ : Mu) (h : H) (ls : T (Option Lp)) (w0 w : World) (s : Sem Next) (k : Out → Bool) : Prop :=
  (∃ v h' z w' μ', k (.val v h') = true ∧ s.run X.P w = .ok (.value z) w' ∧ Mu.ext h.next h'.next μ μ' ∧ X.Rv μ' v z ∧ HRel X μ' h' ls w0 w') ∨
  (∃ h' w', k (.skip h') = true ∧ s.run X.P w = .ok .skip w' ∧ h.next ≤ h'.next ∧ HRel X μ h' ls w0 w') ∨
  (∃ f vs L, k (.call f vs h) = true ∧ X.Rvs μ vs L ∧ s.run X.P w = (callFunc f L.toArray).run X.P w) ∨
  (∃ l vs L e, k (.yield l vs) = true ∧ μ l = some e ∧ X.Rvs μ vs L ∧ s.run X.P w = (Instr.yield e.blk L.toArray).run X.P w) ∨
  (∃ name v vs x L, k (.inv (X.ms name) v vs) = true ∧ X.Rv μ v x ∧ X.Rvs μ vs L ∧ s.run X.P w = (callMethod x name L.toArray).run X.P w) ∨
  (k .recover = true ∧ s.run X.P w = .ok .recover w)
theorem LR.val {s : Sem Next} {v : V} {h' : H} {z : Value} {w' : World} {μ' : Mu} (hk : k (.val v h') = true) (hs : s.run X.P w = .ok (.value z) w') (hl : Mu.ext h.next h'.next μ μ') (hv : X.Rv μ' v z) (R : HRel X μ' h' ls w0 w') : LR X μ h ls w0 w s k := .inl ⟨v, h', z, w', μ', hk, hs, hl, hv, R⟩
theorem LR.skip {s : Sem Next} {h' : H} {w' : World} (hk : k (.skip h') = true) (hs : s.run X.P w = .ok .skip w') (hn : h.next ≤ h'.next) (R : HRel X μ h' ls w0 w') : LR X μ h ls w0 w s k := .inr (.inl ⟨h', w', hk, hs, hn, R⟩)

theorem run_next {s : Sem Value} {P : Program} {z : Value} {w' : World} (h : s.run P w = .ok z w') : ((do pure (Next.value (← s))) : Sem Next).run P w = .ok (.value z) w' := by
  rw [Sem.run_bind, h]; rfl
theorem run_skip {s : Sem Unit} {P : Program} {w' : World} (h : s.run P w = .ok () w') : ((do s; pure Next.skip) : Sem Next).run P w = .ok .skip w' := by
  rw [Sem.run_bind, h]; rfl

/-! Stores -/
theorem li_at {l : List V} {L : List Value} (hl : X.Rvs μ l L) : L.length = (Row.li l).len ∧ ∀ i v, (Row.li l).at i = some v → ∃ y, L[i]? = some y ∧ X.Rv μ v y :=
  ⟨by rw [Row.len_li]; exact rvs_length hl, fun i v hv => rvs_nth hl hv⟩
theorem lStore_ok (R : HRel X μ h ls w0 w) {n : Nat} {a x : Xv} {A B : Value} (ha : X.Rv μ (a t) A) (hb : X.Rv μ (x t) B) (q : lStore n a x t h k = true) {ty : TypeId} {i : D.Ty} {inf : TypeInfo} {d : TypeDesc} (F : TyFacts X.P ty i inf d) (hs : i.size = n) : LR X μ h ls w0 w (do Instr.storeAt ty A B; pure .skip) k := by
  obtain ⟨b, o, e1, q⟩ := asP_true q
  obtain ⟨c1, q⟩ := ok_true.1 q
  rw [e1] at ha
  obtain ⟨e, he, rfl⟩ := rv_p ha
  have hcs := rvs_cells' hb
  obtain ⟨h1, h2⟩ := li_at hcs
  obtain ⟨h', w', hk, hrun, R', hnx, _⟩ := storeR_ok R he q h1 h2
  refine LR.skip hk (run_skip ?_) (Nat.le_of_eq hnx.symm) R'
  unfold Instr.storeAt
  rw [Sem.run_bind, run_sureAddr, Result.andThen_ok]
  unfold storeVar
  rw [Sem.run_bind, F.run_size, Result.andThen_ok, if_neg]
  · exact hrun
  · rw [cells_size hb, hs]
    simpa using Nat.eq_of_beq_eq_true c1

/-! Maps -/
theorem run_setObj {P : Program} {r : Nat} {o o' : Obj} (h : w.heap[r]? = some o) (hc : ∀ c e f, o ≠ .cells c e f) : (setObj r o').run P w = .ok () { w with heap := w.heap.setIfInBounds r o' } := by
  cases o <;> first | exact absurd rfl (hc _ _ _) | simp only [setObj, Sem.run, h]
/-- A map turns. -/
theorem HRel.setMap (R : HRel X μ h ls w0 w) {r : Pa} {es es' : List (V × V × Nat)} {c c' : Nat} {e : Ent} {m' : Array MapEntry} (hb : h.get r = some (.map es c)) (he : μ r = some e) (hm : EntRel X μ es' m'.toList) :
    HRel X μ (h.put r (.map es' c')) ls w0 { w with heap := w.heap.setIfInBounds e.blk (.map m' c') } := by
  have hf : w0.heap.size ≤ e.blk := by
    rcases R.fresh r e (.inl (by rw [hb]; simp)) he with hf | ⟨_, _, _, h1, _⟩
    · exact hf
    · rw [hb] at h1; cases h1
  exact R.turn hb he (.inl hf) ⟨m', rfl, hm⟩ rfl fun hlt => absurd hlt (by omega)
theorem EntRel.append {es : List (V × V × Nat)} {m : List MapEntry} (h : EntRel X μ es m) {x y : V} {A B : Value} {c : Nat} (hx : X.Rv μ x A) (hy : X.Rv μ y B) : EntRel X μ (es ++ [(x, y, c)]) (m ++ [{ key := A, val := B, born := c }]) := by
  induction es generalizing m with
  | nil => cases m with
    | nil => exact ⟨hx, hy, rfl, trivial⟩
    | cons e m => exact h.elim
  | cons a es ih => cases m with
    | nil => exact h.elim
    | cons e m => obtain ⟨a1, a2, a3, a4⟩ := h; exact ⟨a1, a2, a3, ih a4⟩
theorem EntRel.nth {es : List (V × V × Nat)} {m : List MapEntry} (h : EntRel X μ es m) {i : Nat} {a : V × V × Nat} (hi : es[i]? = some a) : ∃ e, m[i]? = some e ∧ X.Rv μ a.1 e.key ∧ X.Rv μ a.2.1 e.val ∧ e.born = a.2.2 := by
  induction es generalizing m i with
  | nil => cases hi
  | cons b es ih => cases m with
    | nil => exact h.elim
    | cons e m =>
      obtain ⟨a1, a2, a3, a4⟩ := h
      cases i with
      | zero => cases hi; exact ⟨e, rfl, a1, a2, a3⟩
      | succ i => exact ih a4 (by simpa using hi)
theorem EntRel.set {es : List (V × V × Nat)} {m : List MapEntry} (h : EntRel X μ es m) (f : V × V × Nat → V × V × Nat) (g : MapEntry → MapEntry) (i : Nat) (hfg : ∀ a e, es[i]? = some a → m[i]? = some e → X.Rv μ a.1 e.key → X.Rv μ a.2.1 e.val → e.born = a.2.2 → X.Rv μ (f a).1 (g e).key ∧ X.Rv μ (f a).2.1 (g e).val ∧ (g e).born = (f a).2.2) : EntRel X μ (setNth f es i) (m.modify i g) := by
  induction es generalizing m i with
  | nil => cases m with
    | nil => cases i <;> exact trivial
    | cons e m => exact h.elim
  | cons b es ih => cases m with
    | nil => exact h.elim
    | cons e m =>
      obtain ⟨a1, a2, a3, a4⟩ := h
      cases i with
      | zero =>
        obtain ⟨b1, b2, b3⟩ := hfg b e rfl rfl a1 a2 a3
        exact ⟨b1, b2, b3, a4⟩
      | succ i => exact ⟨a1, a2, a3, ih a4 i fun a e' h1 h2 => hfg a e' (by simpa using h1) (by simpa using h2)⟩
theorem EntRel.del {es : List (V × V × Nat)} {m : List MapEntry} (h : EntRel X μ es m) (i : Nat) : EntRel X μ (delNth es i) (m.eraseIdx i) := by
  induction es generalizing m i with
  | nil => cases m with
    | nil => cases i <;> exact trivial
    | cons e m => exact h.elim
  | cons b es ih => cases m with
    | nil => exact h.elim
    | cons e m =>
      obtain ⟨a1, a2, a3, a4⟩ := h
      cases i with
      | zero => exact a4
      | succ i => exact ⟨a1, a2, a3, ih a4 i⟩
/-! Keys that are alike bit by bit -/
theorem bitEq_ok {x y : V} {A B : Value} (q : bitEq x y = true) (ha : X.Rv μ x A) (hb : X.Rv μ y B) (n : Nat) : Instr.sameBits n B A = true := by
  cases x <;> cases y <;> first | (cases q; done) | skip
  · rename_i k1 n1 k2 n2
    obtain ⟨h1, h2⟩ := (Bool.and_eq_true ..).mp (show (ikEq k1 k2 && eqI n1 n2) = true from q)
    cases ikEq_eq h1
    rw [eqI_eq] at h2
    cases eq_of_beq h2
    cases rv_i ha; cases rv_i hb
    simp [Instr.sameBits]
  · rename_i b1 b2
    cases eq_of_beq (show (b1 == b2) = true from q)
    cases rv_b ha; cases rv_b hb
    simp [Instr.sameBits]
  · rename_i l1 n1 l2 n2
    cases rv_s ha; cases rv_s hb
    have := strEq_true (show strEq l1 n1 l2 n2 = true from q)
    rw [this]
    unfold Instr.sameBits
    rw [beq_toListBytes]
    exact beq_self_eq_true _
theorem bitEqs_ok : ∀ {l m : List V} {L M : List Value}, bitEqs l m = true → X.Rvs μ l L → X.Rvs μ m M → ∀ n, M.length = L.length ∧ (M.zip L).all (fun p => Instr.sameBits n p.1 p.2) = true
  | [], [], L, M, _, hL, hM, n => by cases hL; cases hM; exact ⟨rfl, rfl⟩
  | x :: l, y :: m, L, M, q, hL, hM, n => by
    obtain ⟨A, L', hA, hL', rfl⟩ := (concs_cons X.ms).1 hL
    obtain ⟨B, M', hB, hM', rfl⟩ := (concs_cons X.ms).1 hM
    obtain ⟨h1, h2⟩ := (Bool.and_eq_true ..).mp (show (bitEq x y && bitEqs l m) = true from q)
    obtain ⟨h3, h4⟩ := bitEqs_ok h2 hL' hM' n
    refine ⟨by simp [h3], ?_⟩
    rw [List.zip_cons_cons, List.all_cons, h4, bitEq_ok h1 hA hB n]
    rfl
  | [], _ :: _, _, _, q, _, _, _ => by cases q
  | _ :: _, [], _, _, q, _, _, _ => by cases q
theorem keyBits_ok {x y : V} {A B : Value} (q : keyBits x y = true) (ha : X.Rv μ x A) (hb : X.Rv μ y B) : (Instr.keyThatStays B A).run X.P w = .ok A w := by
  have key : Instr.sameBits 10000 B A = true := by
    by_cases hag : ∃ l m, x = .ag l ∧ y = .ag m
    · obtain ⟨l, m, rfl, rfl⟩ := hag
      obtain ⟨L, hL, rfl⟩ := rv_ag ha
      obtain ⟨M, hM, rfl⟩ := rv_ag hb
      obtain ⟨h1, h2⟩ := bitEqs_ok (show bitEqs l m = true from q) hL hM 9999
      show (M.toArray.size == L.toArray.size && (M.toArray.toList.zip L.toArray.toList).all fun (p : Value × Value) => Instr.sameBits 9999 p.1 p.2) = true
      rw [Bool.and_eq_true]
      exact ⟨by simp [h1], h2⟩
    · have q : bitEq x y = true := by
        cases x <;> cases y <;> first | exact q | exact absurd ⟨_, _, rfl, rfl⟩ hag
      exact bitEq_ok q ha hb _
  unfold Instr.keyThatStays
  rw [if_pos key]
  rfl
end PH.R
/-
  The reckoner: loud operations on maps.
-/
namespace PH.R
open Go Go.RowKit
variable {X : Cx} {μ : Mu} {h : H} {ls : T (Option Lp)} {w0 w : World} {t : TV} {k : Out → Bool}

theorem modify_toList (m : Array MapEntry) (i : Nat) (g : MapEntry → MapEntry) : (m.modify i g).toList = m.toList.modify i g := by
  apply List.ext_getElem?
  intro j
  rw [Array.getElem?_toList, Array.getElem?_modify, List.getElem?_modify, Array.getElem?_toList]
  split <;> simp_all
theorem lMupd_ok (R : HRel X μ h ls w0 w) {te : TE} {m x y : Xv} {M A B : Value} (hm : X.Rv μ (m t) M) (ha : X.Rv μ (x t) A) (hb : X.Rv μ (y t) B) (q : lMupd te m x y t h k = true) {ty kt e : TypeId} {i : D.Ty} {inf : TypeInfo} (F : TyFacts X.P ty i inf (.map kt e))
    (ht : TeTy X.P te kt) (hd : te.deep ≤ Go.Op.maxDepth) : LR X μ h ls w0 w (do Instr.mapUpdate ty M A B; pure .skip) k := by
  rcases asMp_true q with ⟨r, e1, q⟩ | ⟨_, q⟩
  · rw [e1] at hm
    obtain ⟨en, he, rfl⟩ := rv_mp hm
    obtain ⟨es, cl, hg, q⟩ := asMap_true q
    obtain ⟨l, h1, h2⟩ := R.mapAt hg he
    obtain ⟨q, hck⟩ := keyOk_ok (w := w) q ha ht hd
    obtain ⟨f, hf, q⟩ := ob_true.1 q
    obtain ⟨Fo, hF, hrun⟩ := findKey_ok (w := w) ha ht hd hf h2
    have hnc : ∀ c e f, (Obj.map l cl) ≠ .cells c e f := by intros; simp
    cases f with
    | none =>
      cases Fo with
      | some a => exact hF.elim
      | none =>
        refine LR.skip q (run_skip (w' := { w with heap := w.heap.setIfInBounds en.blk (.map (l.push { key := A, val := B, born := cl }) (cl + 1)) }) ?_) (Nat.le_refl _) (R.setMap hg he ?_)
        · unfold Instr.mapUpdate
          rw [Sem.run_bind, F.run_und, Result.andThen_ok]
          simp only [Sem.run_bind, run_getObj h1 hnc, Result.andThen_ok, hck, hrun, run_setObj h1 hnc]
        · rw [Array.toList_push]; exact h2.append ha hb
    | some f =>
      cases Fo with
      | none => exact hF.elim
      | some a =>
        obtain ⟨j, v⟩ := f
        obtain ⟨j', v'⟩ := a
        obtain ⟨rfl, hv⟩ := hF
        obtain ⟨a, hi, q⟩ := nth_true (show nth es j (fun e => ok (keyBits (x t) e.1) (k (.skip (h.put r (.map (setNth (fun e => (x t, y t, e.2.2)) es j) cl))))) = true from q)
        obtain ⟨hkb, q⟩ := ok_true.1 q
        obtain ⟨me, hme, hk1, hk2, hk3⟩ := h2.nth hi
        rw [Array.getElem?_toList] at hme
        refine LR.skip q (run_skip (w' := { w with heap := w.heap.setIfInBounds en.blk (.map (l.modify j fun e => { e with key := A, val := B }) cl) }) ?_) (Nat.le_refl _) (R.setMap hg he ?_)
        · unfold Instr.mapUpdate
          rw [Sem.run_bind, F.run_und, Result.andThen_ok]
          simp only [Sem.run_bind, run_getObj h1 hnc, Result.andThen_ok, hck, hrun, hme, Option.map_some, Option.getD_some, keyBits_ok hkb ha hk1, run_setObj h1 hnc]
        · rw [modify_toList]
          exact h2.set _ _ j fun a e _ _ _ _ a3 => ⟨ha, hb, a3⟩
  · cases q
theorem lMent_ok (R : HRel X μ h ls w0 w) {te : TE} {z : V} {m x : Xv} {M A : Value} (hm : X.Rv μ (m t) M) (ha : X.Rv μ (x t) A) (q : lMent te z m x t h k = true) {ty kt e : TypeId} {i : D.Ty} {inf : TypeInfo} (F : TyFacts X.P ty i inf (.map kt e))
    (ht : TeTy X.P te kt) (hd : te.deep ≤ Go.Op.maxDepth) {j : D.Ty} {inf' : TypeInfo} {d' : TypeDesc} (G : TyFacts X.P e j inf' d') (hz : j.zero = some z) : LR X μ h ls w0 w (do pure (.value (← Instr.mapEntry ty M A))) k := by
  obtain ⟨Z, hZ, hz'⟩ := G.run_zero (w := w) hz
  have hzr : X.Rv μ z Z := vOf_ok (X := X) (μ := μ) Z z hz'
  rcases asMp_true q with ⟨r, e1, q⟩ | ⟨_, q⟩
  · rw [e1] at hm
    obtain ⟨en, he, rfl⟩ := rv_mp hm
    obtain ⟨es, cl, hg, q⟩ := asMap_true q
    obtain ⟨l, h1, h2⟩ := R.mapAt hg he
    obtain ⟨q, hck⟩ := keyOk_ok (w := w) q ha ht hd
    obtain ⟨f, hf, q⟩ := ob_true.1 q
    obtain ⟨Fo, hF, hrun⟩ := findKey_ok (w := w) ha ht hd hf h2
    have hnc : ∀ c e f, (Obj.map l cl) ≠ .cells c e f := by intros; simp
    cases f with
    | none =>
      cases Fo with
      | some a => exact hF.elim
      | none =>
        have q := mkN_int _ q
        refine LR.val q (run_next (z := .tuple #[Z, goInt cl]) (w' := { w with heap := w.heap.setIfInBounds en.blk (.map (l.push { key := A, val := Z, born := cl }) (cl + 1)) }) ?_) (Mu.ext_rfl (Nat.le_refl _)) ?_ (R.setMap hg he ?_)
        · unfold Instr.mapEntry
          rw [Sem.run_bind, F.run_und, Result.andThen_ok]
          simp only [Sem.run_bind, run_getObj h1 hnc, Result.andThen_ok, hck, hrun, hZ, run_setObj h1 hnc, Sem.run_pure]
        · exact rv_tu_mk (r := [Z, goInt cl]) ((concs_cons X.ms).2 ⟨Z, [goInt cl], hzr, (concs_cons X.ms).2 ⟨goInt cl, [], rfl, rfl, rfl⟩, rfl⟩)
        · rw [Array.toList_push]; exact h2.append ha hzr
    | some f =>
      cases Fo with
      | none => exact hF.elim
      | some a =>
        obtain ⟨j, v⟩ := f
        obtain ⟨j', v'⟩ := a
        obtain ⟨rfl, hv⟩ := hF
        obtain ⟨a, hi, q⟩ := nth_true (show nth es j (fun e => ok (keyBits (x t) e.1) (mkN e.2.2 fun s => k (.val (.tu [v, s]) (h.put r (.map (setNth (fun e => (x t, e.2)) es j) cl))))) = true from q)
        obtain ⟨hkb, q⟩ := ok_true.1 q
        have q := mkN_int _ q
        obtain ⟨me, hme, hk1, hk2, hk3⟩ := h2.nth hi
        rw [Array.getElem?_toList] at hme
        refine LR.val q (run_next (z := .tuple #[v', goInt me.born]) (w' := { w with heap := w.heap.setIfInBounds en.blk (.map (l.modify j fun e => { e with key := A }) cl) }) ?_) (Mu.ext_rfl (Nat.le_refl _)) ?_ (R.setMap hg he ?_)
        · unfold Instr.mapEntry
          rw [Sem.run_bind, F.run_und, Result.andThen_ok]
          simp only [Sem.run_bind, run_getObj h1 hnc, Result.andThen_ok, hck, hrun, hme, Option.map_some, Option.getD_some, keyBits_ok hkb ha hk1, run_setObj h1 hnc, Sem.run_pure]
        · rw [hk3]
          exact rv_tu_mk (r := [v', goInt a.2.2]) ((concs_cons X.ms).2 ⟨v', [goInt a.2.2], hv, (concs_cons X.ms).2 ⟨goInt a.2.2, [], rfl, rfl, rfl⟩, rfl⟩)
        · rw [modify_toList]
          exact h2.set _ _ j fun a e _ _ _ a2 a3 => ⟨ha, a2, a3⟩
  · cases q
theorem findIdx_born {es : List (V × V × Nat)} {m : List MapEntry} (h : EntRel X μ es m) (b : Nat) : m.findIdx? (fun e => (e.born : Int) == (b : Int)) = es.findIdx? (fun e => Nat.beq e.2.2 b) := by
  induction es generalizing m with
  | nil => cases m with
    | nil => rfl
    | cons e m => exact h.elim
  | cons a es ih => cases m with
    | nil => exact h.elim
    | cons e m =>
      obtain ⟨a1, a2, a3, a4⟩ := h
      rw [List.findIdx?_cons, List.findIdx?_cons, ih a4, a3]
      have : ((a.2.2 : Int) == (b : Int)) = Nat.beq a.2.2 b := by
        apply Bool.eq_iff_iff.2
        rw [beq_iff_eq, Nat.beq_eq]
        omega
      rw [this]
theorem lEstore_ok (R : HRel X μ h ls w0 w) {m s x : Xv} {M S A : Value} (hm : X.Rv μ (m t) M) (hs : X.Rv μ (s t) S) (ha : X.Rv μ (x t) A) (q : lEstore m s x t h k = true) (ty : TypeId) : LR X μ h ls w0 w (do Instr.entryStore ty M S A; pure .skip) k := by
  rcases asMp_true q with ⟨r, e1, q⟩ | ⟨_, q⟩
  · rw [e1] at hm
    obtain ⟨en, he, rfl⟩ := rv_mp hm
    obtain ⟨ik, b, e2, q⟩ := asN_true q
    rw [e2] at hs
    cases rv_i hs
    obtain ⟨es, cl, hg, q⟩ := asMap_true q
    obtain ⟨l, h1, h2⟩ := R.mapAt hg he
    obtain ⟨i, hi, q⟩ := ob_true.1 q
    have hnc : ∀ c e f, (Obj.map l cl) ≠ .cells c e f := by intros; simp
    have hidx : l.findIdx? (fun e => (e.born : Int) == (b : Int)) = some i := by
      rw [show l = l.toList.toArray from rfl, List.findIdx?_toArray, findIdx_born h2, hi]
    refine LR.skip q (run_skip (w' := { w with heap := w.heap.setIfInBounds en.blk (.map (l.modify i fun e => { e with val := A }) cl) }) ?_) (Nat.le_refl _) (R.setMap hg he ?_)
    · unfold Instr.entryStore
      simp only [Sem.run_bind, run_getObj h1 hnc, Result.andThen_ok, run_asInt, hidx, run_setObj h1 hnc]
    · rw [modify_toList]
      exact h2.set _ _ i fun a e _ _ a1 _ a3 => ⟨a1, ha, a3⟩
  · cases q
theorem lDel_ok (R : HRel X μ h ls w0 w) {te : TE} {m x : Xv} {M A : Value} (hm : X.Rv μ (m t) M) (ha : X.Rv μ (x t) A) (q : lDel te m x t h k = true) {ty kt e : TypeId} {i : D.Ty} {inf : TypeInfo} (F : TyFacts X.P ty i inf (.map kt e))
    (ht : TeTy X.P te kt) (hd : te.deep ≤ Go.Op.maxDepth) (xt rt : TypeId) : LR X μ h ls w0 w (do pure (.value (← Builtin.delete_ #[ty, xt] rt #[M, A]))) k := by
  have hund : X.Rv μ undV (.tuple #[]) := rfl
  rcases asMp_true q with ⟨r, e1, q⟩ | ⟨e1, q⟩
  · rw [e1] at hm
    obtain ⟨en, he, rfl⟩ := rv_mp hm
    obtain ⟨es, cl, hg, q⟩ := asMap_true q
    obtain ⟨l, h1, h2⟩ := R.mapAt hg he
    obtain ⟨q, hck⟩ := keyOk_ok (w := w) q ha ht hd
    obtain ⟨f, hf, q⟩ := ob_true.1 q
    obtain ⟨Fo, hF, hrun⟩ := findKey_ok (w := w) ha ht hd hf h2
    have hnc : ∀ c e f, (Obj.map l cl) ≠ .cells c e f := by intros; simp
    cases f with
    | none =>
      cases Fo with
      | some a => exact hF.elim
      | none =>
        have hput : HRel X μ h ls w0 { w with heap := w.heap.setIfInBounds en.blk (.map l cl) } := by
          have : w.heap.setIfInBounds en.blk (.map l cl) = w.heap := by
            apply Array.ext_getElem?
            intro j
            rw [Array.getElem?_setIfInBounds]
            split
            · rename_i e; subst e
              split
              · exact h1.symm
              · rename_i hlt; rw [Array.getElem?_eq_none (by omega)]
            · rfl
          rw [this]; exact R
        refine LR.val q (run_next ?_) (Mu.ext_rfl (Nat.le_refl _)) hund hput
        show Sem.run X.P (underlying ty >>= _) w = _
        rw [Sem.run_bind, F.run_und, Result.andThen_ok]
        simp only [List.getElem_toArray, List.getElem_cons_zero, List.getElem_cons_succ, Sem.run_bind, run_getObj h1 hnc, Result.andThen_ok, hck, hrun, run_setObj h1 hnc, Sem.run_pure]
    | some f =>
      cases Fo with
      | none => exact hF.elim
      | some a =>
        obtain ⟨j, v⟩ := f
        obtain ⟨j', v'⟩ := a
        obtain ⟨rfl, hv⟩ := hF
        refine LR.val q (run_next (w' := { w with heap := w.heap.setIfInBounds en.blk (.map (l.eraseIdxIfInBounds j) cl) }) ?_) (Mu.ext_rfl (Nat.le_refl _)) hund (R.setMap hg he ?_)
        · show Sem.run X.P (underlying ty >>= _) w = _
          rw [Sem.run_bind, F.run_und, Result.andThen_ok]
          simp only [List.getElem_toArray, List.getElem_cons_zero, List.getElem_cons_succ, Sem.run_bind, run_getObj h1 hnc, Result.andThen_ok, hck, hrun, run_setObj h1 hnc, Sem.run_pure]
        · have : (l.eraseIdxIfInBounds j).toList = l.toList.eraseIdx j := by simp
          rw [this]
          exact h2.del j
  · rw [e1] at hm
    cases rv_mn hm
    obtain ⟨q, hck⟩ := keyOk_ok (w := w) q ha ht hd
    refine LR.val q (run_next ?_) (Mu.ext_rfl (Nat.le_refl _)) hund R
    show Sem.run X.P (underlying ty >>= _) w = _
    rw [Sem.run_bind, F.run_und, Result.andThen_ok]
    simp only [List.getElem_toArray, List.getElem_cons_zero, List.getElem_cons_succ, Sem.run_bind, hck, Result.andThen_ok, Sem.run_pure]
end PH.R
/-
  The reckoner: loud operations: ranges, calls.
-/
namespace PH.R
open Go Go.RowKit
variable {X : Cx} {μ : Mu} {h : H} {ls : T (Option Lp)} {w0 w : World} {t : TV} {k : Out → Bool}

theorem lAs_ok (R : HRel X μ h ls w0 w) {x : Xv} {A : Value} (ha : X.Rv μ (x t) A) (q : lAs x t h k = true) : LR X μ h ls w0 w (pure (.value A)) k := LR.val q rfl (Mu.ext_rfl (Nat.le_refl _)) ha R
theorem lRecover_ok (q : lRecover t h k = true) : LR X μ h ls w0 w (pure .recover) k := .inr (.inr (.inr (.inr (.inr ⟨q, rfl⟩))))

/-! Ranges -/
/-- A new object that is no row: where it lies is its pointer. -/
theorem newIt_ok (R : HRel X μ h ls w0 w) {x : B} {o : Obj} (q : (h.new x fun b h => k (.val (.p b 0) h)) = true) (ho : ∀ μ', Mu.le μ μ' → ObjRel X μ' x ⟨w.heap.size, 0, 0⟩ o) {s : Sem Value} (hs : s.run X.P w = .ok (.pointer (some ⟨w.heap.size, 0, none⟩)) { w with heap := w.heap.push o }) : LR X μ h ls w0 w (do pure (.value (← s))) k := by
  obtain ⟨hn, h', q, hh⟩ := H.new_true q
  have hnone : μ (paOf h.next) = none := by
    cases c : μ (paOf h.next) with
    | none => rfl
    | some e => have := R.dom _ _ c; rw [num_paOf hn] at this; omega
  have hle := Mu.le_set (e := ⟨w.heap.size, 0, 0⟩) hnone
  obtain ⟨R', hle⟩ := R.add (w' := { w with heap := w.heap.push o }) hn hh ⟨rfl, rfl, rfl, rfl⟩ (ho _ hle)
  exact LR.val q (run_next hs) hle (rv_p_mk (o := 0) (Mu.set_same _ _ _)) R'
theorem lRngS_ok (R : HRel X μ h ls w0 w) {x : Xv} {A : Value} (ha : X.Rv μ (x t) A) (q : lRngS x t h k = true) {ty : TypeId} {i : D.Ty} {inf : TypeInfo} (F : TyFacts X.P ty i inf .string) : LR X μ h ls w0 w (do pure (.value (← Instr.range ty A))) k := by
  obtain ⟨len, n, e1, q⟩ := asS_true q
  rw [e1] at ha
  cases rv_s ha
  refine newIt_ok R q (o := .stringIter (bytesOf len n) 0) (fun μ' _ => ⟨rfl, rfl⟩) ?_
  unfold Instr.range
  rw [Sem.run_bind, F.run_und, Result.andThen_ok]
  rfl
theorem lRngM_ok (R : HRel X μ h ls w0 w) {x : Xv} {A : Value} (ha : X.Rv μ (x t) A) (q : lRngM x t h k = true) {ty kt e : TypeId} {i : D.Ty} {inf : TypeInfo} (F : TyFacts X.P ty i inf (.map kt e)) : LR X μ h ls w0 w (do pure (.value (← Instr.range ty A))) k := by
  rcases asMp_true q with ⟨r, e1, q⟩ | ⟨e1, q⟩
  · rw [e1] at ha
    obtain ⟨en, he, rfl⟩ := rv_mp ha
    obtain ⟨es, cl, hg, q⟩ := asMap_true q
    obtain ⟨l, h1, h2⟩ := R.mapAt hg he
    refine newIt_ok R q (o := .mapIter (some en.blk) cl #[] cl) (fun μ' hle => ⟨_, rfl, rfl, en, hle _ _ he, rfl⟩) ?_
    unfold Instr.range
    rw [Sem.run_bind, F.run_und, Result.andThen_ok]
    simp only [Sem.run_bind, run_getObj h1 (by intros; simp), Result.andThen_ok, Sem.run_pure]
    rfl
  · rw [e1] at ha
    cases rv_mn ha
    refine newIt_ok R q (o := .mapIter none 0 #[] 0) (fun μ' hle => ⟨_, rfl, rfl, rfl⟩) ?_
    unfold Instr.range
    rw [Sem.run_bind, F.run_und, Result.andThen_ok]
    rfl
/-- An iterator turns. -/
theorem HRel.setIt (R : HRel X μ h ls w0 w) {r : Pa} {x x' : B} {e : Ent} {o' : Obj} (hb : h.get r = some x) (hx : ∀ r fz sz el, x ≠ .row r fz sz el) (he : μ r = some e) (ho : ObjRel X μ x' e o') :
    HRel X μ (h.put r x') ls w0 { w with heap := w.heap.setIfInBounds e.blk o' } := by
  have hf : w0.heap.size ≤ e.blk := by
    rcases R.fresh r e (.inl (by rw [hb]; simp)) he with hf | ⟨_, _, _, h1, _⟩
    · exact hf
    · rw [hb] at h1; exact absurd (Option.some.inj h1) (hx _ _ _ _)
  exact R.turn hb he (.inl hf) ho rfl fun hlt => absurd hlt (by omega)
theorem rv_over (X : Cx) (μ : Mu) : X.Rv μ (.tu [.b false]) (.tuple #[.bool false]) := rfl
theorem filter_none (p : MapEntry → Bool) : (#[] : Array MapEntry).filter p = #[] := rfl
theorem run_mapNext1 {P : Program} : (choose (.mapNext 1)).run P w = .ok 0 w := rfl
/-- A step of an iterator over a map, from its candidate on. -/
theorem run_nextMap {P : Program} {b m since stepped clock : Nat} {seen : Array Nat} {l : Array MapEntry} {c : Option MapEntry} (h1 : w.heap[b]? = some (.mapIter (some m) since seen stepped)) (h2 : w.heap[m]? = some (.map l clock)) (rt : TypeId)
    (hs : (!seen.isEmpty && !l.isEmpty && l.all (·.born ≥ stepped)) = false)
    (hc : (if ((l.filter fun e => !seen.contains e.born).filter (·.born < since)).isEmpty then #[none] else #[]) ++ (((l.filter fun e => !seen.contains e.born).filter (·.born < since)) ++ ((l.filter fun e => !seen.contains e.born).filter (·.born ≥ since))).map some = #[c]) :
    (Instr.next (.pointer (some ⟨b, 0, none⟩)) false rt).run P w = (match c with
      | some e => .ok (.tuple #[.bool true, e.key, e.val]) { w with heap := w.heap.setIfInBounds b (.mapIter (some m) since (seen.push e.born) clock) }
      | none => .ok (.tuple #[.bool false]) w) := by
  unfold Instr.next
  simp only [Sem.run_bind, run_getObj h1 (by intros; simp), run_getObj h2 (by intros; simp), Result.andThen_ok, hs, Bool.false_eq_true, if_false, hc]
  show ((choose (.mapNext 1)).run P w).andThen _ = _
  rw [run_mapNext1, Result.andThen_ok]
  cases c with
  | none => rfl
  | some e =>
    show Sem.run P (setObj b _ >>= _) w = _
    rw [Sem.run_bind, run_setObj h1 (by intros; simp), Result.andThen_ok]
    rfl
theorem lNext_ok (R : HRel X μ h ls w0 w) {str : Bool} {it : Xv} {A : Value} (ha : X.Rv μ (it t) A) (q : lNext str it t h k = true) (rt : TypeId) : LR X μ h ls w0 w (do pure (.value (← Instr.next A str rt))) k := by
  obtain ⟨r, o, e1, q1⟩ := asP_true q
  clear q
  rw [e1] at ha
  obtain ⟨en, he, rfl⟩ := rv_p ha
  obtain ⟨c0, q2⟩ := ok_true.1 q1
  clear q1
  cases Nat.eq_of_beq_eq_true c0
  cases hb : h.get r with
  | none => rw [hb] at q2; cases q2
  | some x =>
    rw [hb] at q2
    cases x with
    | row _ _ _ _ => cases q2
    | map _ _ => cases q2
    | dfd _ => cases q2
    | itS len n pos =>
      obtain ⟨hstr, q3⟩ := ok_true.1 q2
      clear q2
      subst hstr
      obtain ⟨ob, h1, rfl, hoff⟩ := R.obj _ _ _ hb he
      have hnc : ∀ c e f, (Obj.stringIter (bytesOf len n) pos) ≠ .cells c e f := by intros; simp
      rw [bc_eq] at q3
      by_cases c : len ≤ pos
      · rw [if_pos (by simpa using c)] at q3
        refine LR.val q3 (run_next ?_) (Mu.ext_rfl (Nat.le_refl _)) (rv_over X μ) R
        unfold Instr.next
        simp only [Nat.add_zero, hoff, Sem.run_bind, run_getObj h1 hnc, Result.andThen_ok, bytesOf_size]
        rw [if_neg (by omega)]
        rfl
      · rw [if_neg (by simpa using c)] at q3
        obtain ⟨c2, q4⟩ := ok_true.1 q3
        have c2 : byteAt n pos < 128 := by simpa [Nat.blt_eq] using c2
        rw [forceN_eq, mkN_eq, forceN_eq] at q4
        refine LR.val q4 (run_next (z := .tuple #[.bool true, goInt pos, .int .i32 (byteAt n pos)]) (w' := { w with heap := w.heap.setIfInBounds en.blk (.stringIter (bytesOf len n) (pos + 1)) }) ?_) (Mu.ext_rfl (Nat.le_refl _)) ?_ (R.setIt hb (by intros; simp) he ⟨rfl, hoff⟩)
        · unfold Instr.next
          simp only [Nat.add_zero, hoff, Sem.run_bind, run_getObj h1 hnc, Result.andThen_ok, bytesOf_size]
          rw [if_pos (by omega), decode_ascii (by omega) c2]
          simp only [Sem.run_bind, run_setObj h1 hnc, Result.andThen_ok, Sem.run_pure]
        · rfl
    | itM m since seen stepped =>
      obtain ⟨ob, h1, r', rfl, hoff, hm'⟩ := R.obj _ _ _ hb he
      have hnc : ∀ c e f, (Obj.mapIter r' since seen.toArray stepped) ≠ .cells c e f := by intros; simp
      cases str with
      | true => cases m <;> cases q2
      | false =>
        cases m with
        | none =>
          subst hm'
          refine LR.val q2 (run_next ?_) (Mu.ext_rfl (Nat.le_refl _)) (rv_over X μ) R
          unfold Instr.next
          simp only [Nat.add_zero, hoff, Sem.run_bind, run_getObj h1 hnc, Result.andThen_ok]
          rfl
        | some m =>
          obtain ⟨em, hem, rfl⟩ := hm'
          obtain ⟨es, clock, hm, q3⟩ := asMap_true (show asMap (h.get m) _ = true from q2)
          clear q2
          obtain ⟨l, h2, h3⟩ := R.mapAt hm hem
          have hnm : ∀ c e f, (Obj.map l clock) ≠ .cells c e f := by intros; simp
          cases es with
          | nil =>
            have hl : l = #[] := by
              cases l with
              | mk l => cases l with
                | nil => rfl
                | cons y l => exact h3.elim
            subst hl
            refine LR.val q3 (run_next ?_) (Mu.ext_rfl (Nat.le_refl _)) (rv_over X μ) R
            rw [Nat.add_zero, hoff, run_nextMap (c := none) h1 h2 rt (by simp) (by simp only [filter_none]; simp)]
          | cons a es =>
            obtain ⟨x, v, born⟩ := a
            cases es with
            | cons b es => cases q3
            | nil =>
              obtain ⟨c1, q4⟩ := ok_true.1 q3
              clear q3
              have c1 : born < since := by simpa [Nat.blt_eq] using c1
              have hl : ∃ y, l = #[y] ∧ X.Rv μ x y.key ∧ X.Rv μ v y.val ∧ y.born = born := by
                cases l with
                | mk l =>
                  cases l with
                  | nil => exact h3.elim
                  | cons y l =>
                    cases l with
                    | nil => exact ⟨y, rfl, h3.1, h3.2.1, h3.2.2.1⟩
                    | cons z l => exact h3.2.2.2.elim
              obtain ⟨y, rfl, hk, hv, hbn⟩ := hl
              cases seen with
              | nil =>
                refine LR.val q4 (run_next (z := .tuple #[.bool true, y.key, y.val]) (w' := { w with heap := w.heap.setIfInBounds en.blk (.mapIter (some em.blk) since #[born] clock) }) ?_) (Mu.ext_rfl (Nat.le_refl _)) ?_ (R.setIt hb (by intros; simp) he ⟨_, rfl, hoff, em, hem, rfl⟩)
                · have f1 : (#[y] : Array MapEntry).filter (fun e => !([] : List Nat).toArray.contains e.born) = #[y] := by simp
                  have f2 : (#[y] : Array MapEntry).filter (fun e => e.born < since) = #[y] := by simp [hbn, c1]
                  have f3 : (#[y] : Array MapEntry).filter (fun e => e.born ≥ since) = #[] := by simp [hbn, c1]
                  rw [Nat.add_zero, hoff, run_nextMap (c := some y) h1 h2 rt (by simp) (by rw [f1, f2, f3]; simp), ← hbn]
                  rfl
                · exact rv_tu_mk (r := [.bool true, y.key, y.val]) ((concs_cons X.ms).2 ⟨.bool true, [y.key, y.val], rfl, (concs_cons X.ms).2 ⟨y.key, [y.val], hk, (concs_cons X.ms).2 ⟨y.val, [], hv, rfl, rfl⟩, rfl⟩, rfl⟩)
              | cons s seen =>
                cases seen with
                | cons _ _ => cases q4
                | nil =>
                  obtain ⟨c2, q5⟩ := ok_true.1 q4
                  simp only [Bool.and_eq_true, Nat.beq_eq, Nat.blt_eq] at c2
                  obtain ⟨rfl, c2⟩ := c2
                  refine LR.val q5 (run_next ?_) (Mu.ext_rfl (Nat.le_refl _)) (rv_over X μ) R
                  have f1 : (#[y] : Array MapEntry).filter (fun e => !([s] : List Nat).toArray.contains e.born) = #[] := by simp [hbn]
                  rw [Nat.add_zero, hoff, run_nextMap (c := none) h1 h2 rt (by simp [hbn, c2]) (by rw [f1]; simp only [filter_none]; simp)]
end PH.R
/-
  The reckoner: loud operations: calls.
-/
namespace PH.R
open Go Go.RowKit
variable {X : Cx} {μ : Mu} {h : H} {ls : T (Option Lp)} {w0 w : World} {t : TV} {k : Out → Bool}

theorem rvs_append {a b : List V} {A B : List Value} (ha : X.Rvs μ a A) (hb : X.Rvs μ b B) : X.Rvs μ (a ++ b) (A ++ B) := by
  induction a generalizing A with
  | nil => cases ha; exact hb
  | cons x a ih =>
    obtain ⟨y, r, h1, h2, rfl⟩ := (concs_cons X.ms).1 ha
    exact (concs_cons X.ms).2 ⟨y, r ++ B, h1, ih h2, rfl⟩
theorem LR.call {s : Sem Next} {f : Nat} {vs : List V} {L : List Value} (hk : k (.call f vs h) = true) (hl : X.Rvs μ vs L) (hs : s.run X.P w = (callFunc f L.toArray).run X.P w) : LR X μ h ls w0 w s k := .inr (.inr (.inl ⟨f, vs, L, hk, hl, hs⟩))
theorem LR.inv {s : Sem Next} {name : String} {v : V} {vs : List V} {x : Value} {L : List Value} (hk : k (.inv (X.ms name) v vs) = true) (hv : X.Rv μ v x) (hl : X.Rvs μ vs L) (hs : s.run X.P w = (callMethod x name L.toArray).run X.P w) : LR X μ h ls w0 w s k := .inr (.inr (.inr (.inr (.inl ⟨name, v, vs, x, L, hk, hv, hl, hs⟩))))
section
variable {ev : Operand → Value} {c : Call} {args : List Xv}
/-- A call, as it is carried out. -/
def callS (ev : Operand → Value) (c : Call) (rt : TypeId) : Sem Next := do let d ← resolve ev c rt; invoke d.target d.args
theorem args_eq (ev : Operand → Value) (c : Call) : c.args.map ev = (c.args.toList.map ev).toArray := by
  apply Array.ext'
  simp
theorem take_all (ev : Operand → Value) (c : Call) : (c.args.toList.map ev).take c.args.size = c.args.toList.map ev := List.take_of_length_le (by simp)
theorem lCall_ok (E : EvOk ev) {f : Nat} (hc : c.callee = .value (.func f)) (ha : X.Rvs μ (evs t args) (c.args.toList.map ev)) (q : lCall f args t h k = true) (rt : TypeId) : LR X μ h ls w0 w (callS ev c rt) k := by
  refine LR.call q ha ?_
  unfold callS resolve
  simp only [hc, E.func, Deferred.ofValue, Sem.run_bind, Sem.run_pure, Result.andThen_ok, invoke, args_eq]
  simp
theorem lCallV_ok {f : Xv} {fo : Operand} (hc : c.callee = .value fo) (hf : X.Rv μ (f t) (ev fo)) (ha : X.Rvs μ (evs t args) (c.args.toList.map ev)) (q : lCallV f args t h k = true) (rt : TypeId) : LR X μ h ls w0 w (callS ev c rt) k := by
  rcases asFu_true q with ⟨g, a, cp, e1, q⟩ | ⟨l, e1, q⟩ | ⟨n, tb, a, e1, q⟩ <;> rw [e1] at hf
  · obtain ⟨r, s, hr, hs, e2⟩ := rv_fu hf
    refine LR.call q (rvs_append (rvs_append hr ha) hs) ?_
    unfold callS resolve
    simp only [hc, e2, Deferred.ofValue, Sem.run_bind, Sem.run_pure, Result.andThen_ok, invoke, args_eq]
    simp
  · obtain ⟨e, he, e2⟩ := rv_fy hf
    refine .inr (.inr (.inr (.inl ⟨l, _, _, e, q, he, ha, ?_⟩)))
    unfold callS resolve
    simp only [hc, e2, Deferred.ofValue, Sem.run_bind, Sem.run_pure, Result.andThen_ok, invoke, args_eq]
    simp
  · obtain ⟨r, hm, hr, e2⟩ := rv_fm hf
    subst hm
    cases a with
    | nil => cases q
    | cons x a =>
      cases a with
      | cons _ _ => cases q
      | nil =>
        obtain ⟨y, r', h1, h2, rfl⟩ := (concs_cons X.ms).1 hr
        cases h2
        refine LR.inv q h1 ha ?_
        unfold callS resolve
        simp only [hc, e2, Deferred.ofValue, Sem.run_bind, Sem.run_pure, Result.andThen_ok, invoke, args_eq]
        simp [take_all]
theorem lInv_ok {x : Xv} {recv : Operand} {name : String} (hc : c.callee = .invoke recv name) (hx : X.Rv μ (x t) (ev recv)) (ha : X.Rvs μ (evs t args) (c.args.toList.map ev)) (q : lInv (X.ms name) x args t h k = true) (rt : TypeId) : LR X μ h ls w0 w (callS ev c rt) k := by
  refine LR.inv q hx ha ?_
  unfold callS resolve
  simp only [hc, Sem.run_bind, Sem.run_pure, Result.andThen_ok, invoke, args_eq]
  simp [take_all]
theorem lDfr_ok {f : Xv} {fo : Operand} (hc : c.callee = .value fo) (hf : X.Rv μ (f t) (ev fo)) (ha : X.Rvs μ (evs t args) (c.args.toList.map ev)) (q : lDfr f args t h k = true) (rt : TypeId) : ∃ d D, k (.dfr d) = true ∧ DfRel X μ d D ∧ (resolve ev c rt).run X.P w = .ok D w := by
  rcases asFu_true q with ⟨g, a, cp, e1, q⟩ | ⟨l, e1, q⟩ | ⟨n, tb, a, e1, q⟩
  · rw [e1] at hf
    obtain ⟨r, s, hr, hs, e2⟩ := rv_fu hf
    refine ⟨⟨g, a ++ evs t args ++ cp, none⟩, { target := .fn (.func g) s.toArray, args := r.toArray ++ (c.args.toList.map ev).toArray }, q, ⟨s.toArray, rfl, ?_⟩, ?_⟩
    · have := rvs_append (rvs_append hr ha) hs
      simpa using this
    · unfold resolve
      simp only [hc, e2, Deferred.ofValue, Sem.run_bind, Sem.run_pure, Result.andThen_ok, args_eq]
  · cases q
  · cases q
end
end PH.R
/-
  The reckoner: loud operations: what a slice holds; copies.
-/
namespace PH.R
open Go Go.RowKit
variable {X : Cx} {μ : Mu} {h : H} {ls : T (Option Lp)} {w0 w : World} {t : TV} {k : Out → Bool}

/-- A slice's, or a text's, elements. -/
theorem sliceR_ok (R : HRel X μ h ls w0 w) {sz : Nat} {v : V} {A : Value} (ha : X.Rv μ v A) {kk : Row → Nat → Bool} (q : sliceR h sz v kk = true) :
    ∃ r n, kk r n = true ∧ r.len = n * sz ∧ (Builtin.lenOf A).run X.P w = .ok n w ∧ ∀ m, m ≤ n → ∃ xs : List Value, (∀ w' : World, w'.heap = w.heap → (Builtin.firstCells sz m A).run X.P w' = .ok xs.toArray w') ∧ xs.length = m * sz ∧ ∀ i u, i < m * sz → r.at i = some u → ∃ y, xs[i]? = some y ∧ X.Rv μ u y := by
  rcases asStr_true q with ⟨b, o, len, c, e1, q⟩ | ⟨e1, q⟩ | ⟨len, n, e1, q⟩ <;> rw [e1] at ha
  · obtain ⟨en, a, cp, he, rfl, hadr⟩ := rv_sl' ha
    obtain ⟨r, fz, sz', el, hb, q⟩ := asRow_true q
    obtain ⟨cs, f, h1, h2⟩ := R.rowAt hb he
    obtain ⟨p, q, hp, hin, hat, _⟩ := Row.part_true q
    refine ⟨p, len, q, hp, rfl, fun m hm => ?_⟩
    have hle : m * sz ≤ len * sz := Nat.mul_le_mul_right sz hm
    have hlen : (p.list.take (m * sz)).length = m * sz := by rw [List.length_take, Row.list_length, hp]; exact Nat.min_eq_left hle
    have hin' : 0 < len * sz → o + len * sz ≤ r.len := hin
    obtain ⟨xs, hx1, hx2, hx3⟩ := h2.list (o := o) (n := m * sz) (l := p.list.take (m * sz)) hlen (fun h0 => by have := hin' (by omega); omega) fun j hj => by
      rw [List.getElem?_take_of_lt hj, Row.list_get, hat j (by show j < len * sz; omega)]
    refine ⟨xs, fun w' hw' => ?_, hx1, fun i u hi hu => ?_⟩
    · show (loadCells a (m * sz)).run X.P w' = _
      rcases Nat.eq_zero_or_pos (m * sz) with h0 | h0
      · rw [h0] at hx1 ⊢
        have : xs = [] := List.length_eq_zero_iff.1 hx1
        subst this
        rfl
      · have hl : 0 < len := by
          rcases Nat.eq_zero_or_pos len with c | c
          · subst c
            have : m = 0 := by omega
            subst this
            rw [Nat.zero_mul] at h0; omega
          · exact c
        rw [hadr hl, ← hx1]
        exact run_loadCells fun j hj => by rw [cell_at (by rw [hw']; exact h1)]; exact hx3 j (by omega)
    · exact rvs_nth hx2 (by rw [List.getElem?_take_of_lt hi, Row.list_get]; exact hu)
  · cases rv_sn ha
    refine ⟨_, _, q, by rw [Row.len_li, Nat.zero_mul]; rfl, rfl, fun m hm => ⟨[], fun _ _ => rfl, ?_, fun i u hi _ => ?_⟩⟩
    · have : m = 0 := by omega
      subst this; simp
    · have : m = 0 := by omega
      subst this; rw [Nat.zero_mul] at hi; omega
  · cases rv_s ha
    obtain ⟨c1, q⟩ := ok_true.1 q
    cases Nat.eq_of_beq_eq_true c1
    refine ⟨_, _, q, by rw [Row.len_by, Nat.mul_one], by show Result.ok (bytesOf len n).size w = _; rw [bytesOf_size], fun m hm => ?_⟩
    have hrun : ∀ w' : World, (Builtin.firstCells 1 m (.string (bytesOf len n))).run X.P w' = .ok (((bytesOf len n).extract 0 m).data.map fun b => Value.int .u8 b.toNat) w' := fun _ => rfl
    rw [bytesOf_extract hm (Nat.zero_le _)] at hrun
    simp only [Nat.sub_zero] at hrun
    refine ⟨((bytesOf m (cutN n 0 m)).data.map fun b => Value.int .u8 b.toNat).toList, fun w' _ => hrun w', ?_, fun i u hi hu => ?_⟩
    · rw [Array.length_toList, Array.size_map, Nat.mul_one]; exact bytesOf_size _ _
    · rw [Nat.mul_one] at hi
      have hu : (if i < len then some (V.i .u8 (byteAt n i)) else none) = some u := hu
      rw [if_pos (by omega)] at hu
      cases hu
      refine ⟨_, ?_, rv_int X μ .u8 (byteAt n i)⟩
      rw [Array.getElem?_toList, u8s_at, if_pos hi, byteAt_cutN hi, Nat.zero_add]
theorem lCopy_ok (R : HRel X μ h ls w0 w) {sz : Nat} {d s : Xv} {A B : Value} (ha : X.Rv μ (d t) A) (hb : X.Rv μ (s t) B) (q : lCopy sz d s t h k = true) {ty e : TypeId} {i j : D.Ty} {inf inf' : TypeInfo} {dd : TypeDesc} (F : TyFacts X.P ty i inf (.slice e)) (G : TyFacts X.P e j inf' dd) (hs : j.size = sz) (xt rt : TypeId) : LR X μ h ls w0 w (do pure (.value (← Builtin.copy_ #[ty, xt] rt #[A, B]))) k := by
  obtain ⟨r, m, q, hlen, hlo, hfc⟩ := sliceR_ok R hb q
  rcases asSlN_true q with ⟨b, o, len, c, e1, q⟩ | ⟨e1, q⟩ <;> rw [e1] at ha
  · obtain ⟨en, a, cp, he, rfl, hadr⟩ := rv_sl' ha
    rw [forceN_eq] at q
    have hmin : bc (Nat.ble m len) m len = Nat.min m len := by
      rw [bc_eq]
      show _ = min m len
      split
      · rename_i c; rw [Nat.min_eq_left (by simpa using c)]
      · rename_i c; rw [Nat.min_eq_right (by have : ¬ m ≤ len := by simpa using c
                                             omega)]
    rw [hmin] at q
    obtain ⟨p, q, hp, hin, hat, _⟩ := Row.part_true q
    obtain ⟨xs, hx1, hx2, hx3⟩ := hfc (Nat.min m len) (Nat.min_le_left _ _)
    have hp : p.len = Nat.min m len * sz := hp
    obtain ⟨h', w', hk, hrun, R', hnx, _⟩ := storeR_ok R he q (xs := xs) (by rw [hx2, hp]) fun i u hu => by
      have hi := Row.at_some hu
      rw [hp] at hi
      rw [hat i hi, Nat.zero_add] at hu
      exact hx3 i u hi hu
    have hst : (storeCells a xs).run X.P w = .ok () w' := by
      rcases Nat.eq_zero_or_pos len with c | c
      · subst c
        have : xs = [] := List.length_eq_zero_iff.1 (by rw [hx2]; show min m 0 * sz = 0; rw [Nat.min_zero, Nat.zero_mul])
        subst this
        exact hrun
      · rw [hadr c]; exact hrun
    refine LR.val (mkN_int _ hk) (run_next ?_) (Mu.ext_rfl (Nat.le_of_eq hnx.symm)) (rv_int X μ .i64 _) R'
    show Sem.run X.P (underlying ty >>= _) w = _
    rw [Sem.run_bind, F.run_und, Result.andThen_ok]
    simp only [List.getElem_toArray, List.getElem_cons_zero, List.getElem_cons_succ, Sem.run_bind, hlo, Result.andThen_ok, G.run_size, hs, hx1 w rfl, hst, Sem.run_pure]
    rfl
  · cases rv_sn ha
    obtain ⟨xs, hx1, hx2, hx3⟩ := hfc 0 (Nat.zero_le _)
    refine LR.val q (run_next ?_) (Mu.ext_rfl (Nat.le_refl _)) (rv_int X μ .i64 _) R
    show Sem.run X.P (underlying ty >>= _) w = _
    rw [Sem.run_bind, F.run_und, Result.andThen_ok]
    simp only [List.getElem_toArray, List.getElem_cons_zero, List.getElem_cons_succ, Sem.run_bind, hlo, Result.andThen_ok, G.run_size, hs, show Nat.min m 0 = 0 from Nat.min_zero m, hx1 w rfl, Sem.run_pure]
    rfl
end PH.R
/-
  The reckoner: loud operations: clear.
-/
namespace PH.R
open Go Go.RowKit
variable {X : Cx} {μ : Mu} {h : H} {ls : T (Option Lp)} {w0 w : World} {t : TV} {k : Out → Bool}

theorem rv_und (X : Cx) (μ : Mu) : X.Rv μ undV (.tuple #[]) := rfl
theorem lClearS_ok (R : HRel X μ h ls w0 w) {sz : Nat} {z : List V} {x : Xv} {A : Value} (ha : X.Rv μ (x t) A) (q : lClearS sz z x t h k = true) {ty e : TypeId} {i j : D.Ty} {inf inf' : TypeInfo} {dd : TypeDesc} (F : TyFacts X.P ty i inf (.slice e)) (G : TyFacts X.P e j inf' dd) (hz : j.cells = some z) (rt : TypeId) : LR X μ h ls w0 w (do pure (.value (← Builtin.clear_ #[ty] rt #[A]))) k := by
  obtain ⟨Z, h1, h2⟩ := G.run_cells (X := X) (w := w) hz rfl
  rcases asSlN_true q with ⟨b, o, len, c, e1, q⟩ | ⟨e1, q⟩ <;> rw [e1] at ha
  · obtain ⟨en, a, cp, he, rfl, hadr⟩ := rv_sl' ha
    rw [bc_eq] at q
    by_cases c0 : len = 0
    · subst c0
      rw [if_pos (show Nat.beq 0 0 = true from rfl)] at q
      refine LR.val q (run_next ?_) (Mu.ext_rfl (Nat.le_refl _)) (rv_und X μ) R
      show Sem.run X.P (underlying ty >>= _) w = _
      rw [Sem.run_bind, F.run_und, Result.andThen_ok]
      rfl
    · rw [if_neg (by simpa using c0)] at q
      obtain ⟨c1, q⟩ := ok_true.1 q
      have hr := rvs_rep (h2 μ) len (len * Z.cells.size) rfl
      obtain ⟨a1, a2⟩ := li_at hr
      obtain ⟨h', w', hk, hrun, R', hnx, _⟩ := storeR_ok R he q a1 a2
      refine LR.val hk (run_next ?_) (Mu.ext_rfl (Nat.le_of_eq hnx.symm)) (rv_und X μ) R'
      obtain ⟨n, rfl⟩ : ∃ n, len = n + 1 := ⟨len - 1, by omega⟩
      rw [hadr (by omega)]
      show Sem.run X.P (underlying ty >>= _) w = _
      rw [Sem.run_bind, F.run_und, Result.andThen_ok]
      simp only [List.getElem_toArray, List.getElem_cons_zero, Sem.run_bind, h1, Result.andThen_ok, Builtin.zeroCells]
      rw [hrun]
      rfl
  · cases rv_sn ha
    refine LR.val q (run_next ?_) (Mu.ext_rfl (Nat.le_refl _)) (rv_und X μ) R
    show Sem.run X.P (underlying ty >>= _) w = _
    rw [Sem.run_bind, F.run_und, Result.andThen_ok]
    rfl
end PH.R
/-
  The reckoner: loud operations: unsafe.String.
-/
namespace PH.R
open Go Go.RowKit
variable {X : Cx} {μ : Mu} {h : H} {ls : T (Option Lp)} {w0 w : World} {t : TV} {k : Out → Bool}

theorem run_loadBytes {P : Program} (n b : Nat) : ∀ (m o j : Nat) (acc : ByteArray), (∀ i, i < m → w.cell? ⟨b, o + i, none⟩ = some (.int .u8 (byteAt n (j + i)))) →
    (loadBytes ⟨b, o, none⟩ acc m).run P w = .ok (acc ++ ⟨((List.range m).map fun i => UInt8.ofNat (byteAt n (j + i))).toArray⟩) w
  | 0, o, j, acc, _ => by
    show Result.ok acc w = _
    congr 1
    apply bytes_ext
    simp
  | m + 1, o, j, acc, hc => by
    have h0 := hc 0 (by omega)
    rw [Nat.add_zero, Nat.add_zero] at h0
    rw [loadBytes, Sem.run_bind, run_load_cell h0, Result.andThen_ok]
    simp only [add_at]
    rw [run_loadBytes n b m (o + 1) (j + 1) _ fun i hi => by
      have := hc (i + 1) (by omega)
      rw [show o + 1 + i = o + (i + 1) by omega, this, show j + (i + 1) = j + 1 + i by omega]]
    congr 1
    apply bytes_ext
    rw [List.range_succ_eq_map]
    simp [Function.comp_def, Nat.add_assoc, Nat.add_comm 1]

theorem liesAt_row {P : Program} {e cells off n : Nat} (hs : P.cellsOf e = 1) (hc : off + n ≤ cells) (m : Nat) : liesAt P (m + 1) e (cells / P.cellsOf e) off e n = true := by
  have hsame : sameLayout P P.depth e e = true := by
    rw [show P.depth = (2 * (P.types.size + Made.depth) + 1) + 1 from rfl]
    unfold sameLayout
    simp
  unfold liesAt
  rw [Bool.or_eq_true]
  left
  rw [show P.depth = (2 * (P.types.size + Made.depth) + 1) + 1 from rfl] at hsame ⊢
  unfold rowAt
  simp only [hs, Nat.div_one, Nat.mod_one]
  rw [if_neg (by omega), Bool.or_eq_true]
  left
  simp only [beq_self_eq_true, Bool.true_and, Bool.and_eq_true, decide_eq_true_eq]
  exact ⟨hc, hsame⟩
theorem rv_s_mk (X : Cx) (μ : Mu) (l n : Nat) : X.Rv μ (.s l n) (.string (bytesOf l n)) := rfl
theorem lUstr_ok (R : HRel X μ h ls w0 w) {el : Nat} {p n : Xv} {A B : Value} (ha : X.Rv μ (p t) A) (hb : X.Rv μ (n t) B) (q : lUstr el p n t h k = true) {ty : TypeId} {i j : D.Ty} {inf inf' : TypeInfo} {dd : TypeDesc} (F : TyFacts X.P ty i inf (.pointer el)) (G : TyFacts X.P el j inf' dd) (h8 : D.isU8 j = true) (xt rt : TypeId) : LR X μ h ls w0 w (do pure (.value (← Builtin.unsafeString_ #[ty, xt] rt #[A, B]))) k := by
  obtain ⟨ik, m, e1, q⟩ := asN_true q
  rw [e1] at hb
  cases rv_i hb
  have hempty : X.Rv μ (.s 0 0) (.string .empty) := rv_s_mk X μ 0 0
  have hlt : ∀ b, LR X μ h ls w0 w b k → LR X μ h ls w0 w b k := fun _ h => h
  replace q := asPn_true q
  rcases q with ⟨b, o, e2, q⟩ | ⟨e2, q⟩ <;> rw [e2] at ha
  · obtain ⟨e, he, rfl⟩ := rv_p ha
    rw [bc_eq] at q
    split at q
    · rename_i h0
      cases Nat.eq_of_beq_eq_true h0
      refine LR.val q (run_next ?_) (Mu.ext_rfl (Nat.le_refl _)) hempty R
      rfl
    · rename_i h0
      have h0 : m ≠ 0 := fun c => h0 (by rw [c]; rfl)
      obtain ⟨r, fz, sz, el', hr, q⟩ := asRow_true q
      obtain ⟨c1, q⟩ := ok_true.1 q
      obtain ⟨c1, c3⟩ := (Bool.and_eq_true ..).mp c1
      obtain ⟨c1, c2⟩ := (Bool.and_eq_true ..).mp c1
      cases Nat.eq_of_beq_eq_true c1
      have c3 : m < big := by simpa [Nat.blt_eq] using c3
      have c2 : 0 < sz := by simpa [Nat.blt_eq] using c2
      obtain ⟨qq, q, hp, hin, hat, hB⟩ := Row.part_true q
      obtain ⟨c, f, h1, h2⟩ := R.rowAt hr he
      cases qq with
      | li l => cases q
      | bs l x =>
      have hl : l = m := hp
      subst hl
      cases r with
      | li _ => cases hB
      | bs L N =>
      have hin := hin (by omega)
      have hin' : o + l ≤ L := hin
      have hsize : e.off + L ≤ c.size := h2.size
      have hN : ∀ j, j < l → byteAt x j = byteAt N (o + j) := fun j hj => by
        have := hat j hj
        have a1 : (Row.bs l x).at j = some (.i .u8 (byteAt x j)) := if_pos hj
        have a2 : (Row.bs L N).at (o + j) = some (.i .u8 (byteAt N (o + j))) := if_pos (by omega)
        rw [a1, a2] at this
        simp only [Option.some.injEq, V.i.injEq, true_and] at this
        exact_mod_cast this
      have hcell : ∀ j, j < l → w.cell? ⟨e.blk, e.off + o + j, none⟩ = some (.int .u8 (byteAt x (0 + j))) := fun j hj => by
        obtain ⟨y, y1, y2⟩ := h2.cell (o + j) (.i .u8 (byteAt N (o + j))) (if_pos (by omega))
        cases rv_i y2
        rw [cell_at h1, Nat.zero_add, hN j hj, ← y1, Nat.add_assoc]
      have hcells : X.P.cellsOf el = 1 := by
        unfold Program.cellsOf
        rw [G.info]
        show inf'.size = 1
        rw [← G.size]
        exact (isU8_some h8).2.1
      have hv : (variablesAt ⟨e.blk, e.off + o, none⟩ el l).run X.P w = .ok true w := by
        unfold variablesAt
        simp only [Sem.run_bind, run_program, Result.andThen_ok, run_shape h1, Sem.run_pure]
        rw [show X.P.depth = (2 * (X.P.types.size + Made.depth) + 1) + 1 from rfl, liesAt_row hcells (by omega)]
      have hload := run_loadBytes (P := X.P) (w := w) x e.blk l (e.off + o) 0 .empty hcell
      have hbytes : (.empty ++ ⟨((List.range l).map fun i => UInt8.ofNat (byteAt x (0 + i))).toArray⟩ : ByteArray) = bytesOf l x := by
        apply bytes_ext
        show (ByteArray.append _ _).data.toList = bytesL l x
        simp [bytesL]
      rw [hbytes] at hload
      let f' : Nat × Nat := if f.1 == f.2 then (e.off + o, e.off + o + l) else (min f.1 (e.off + o), max f.2 (e.off + o + l))
      have hfz : w.freeze ⟨e.blk, e.off + o, none⟩ l = { w with heap := w.heap.setIfInBounds e.blk (.cells c el f') } := by
        unfold World.freeze
        rw [if_neg h0]
        congr 1
        apply Array.ext_getElem?
        intro j
        rw [Array.getElem?_modify, Array.getElem?_setIfInBounds]
        simp only
        by_cases ej : e.blk = j
        · subst ej
          rw [if_pos rfl, if_pos rfl, if_pos (Array.getElem?_eq_some_iff.1 h1).1, h1]
          rfl
        · rw [if_neg ej, if_neg ej]
      have hnew : w0.heap.size ≤ e.blk := by
        rcases R.fresh b e (.inl (by rw [hr]; simp)) he with a | ⟨r1, fz1, el1, a, a2⟩
        · exact a
        · rw [hr] at a; cases a; omega
      have hR : HRel X μ (h.put b (.row (.bs L N) (bc (Nat.ble (Nat.add o l) fz) fz (Nat.add o l)) sz el)) ls w0 { w with heap := w.heap.setIfInBounds e.blk (.cells c el f') } := by
        refine R.turn hr he (.inl hnew) ⟨c, f', rfl, ?_⟩ rfl fun hlt => absurd hlt (by omega)
        have hmax : bc (Nat.ble (Nat.add o l) fz) fz (Nat.add o l) = max fz (o + l) := by
          rw [bc_eq]
          show (if (o + l).ble fz = true then fz else o + l) = _
          split
          · rename_i c; rw [Nat.max_eq_left (by simpa using c)]
          · rename_i c; rw [Nat.max_eq_right (by have : ¬ o + l ≤ fz := by simpa using c
                                                 omega)]
        rw [hmax]
        have hh := h2.hull rfl
        have hf2 : f'.2 ≤ e.off + max fz (o + l) := by
          show (if f.1 == f.2 then (e.off + o, e.off + o + l) else (min f.1 (e.off + o), max f.2 (e.off + o + l))).2 ≤ _
          split
          · show e.off + o + l ≤ _; omega
          · rename_i hne
            have : f.1 ≠ f.2 := by simpa using hne
            show max f.2 (e.off + o + l) ≤ _
            have := hh.resolve_left this
            omega
        refine ⟨h2.size, fun i hi1 hi2 => ?_, h2.cell, h2.zero, h2.room, fun _ => .inr hf2⟩
        unfold froz
        rw [Bool.and_eq_false_iff]
        right
        rw [decide_eq_false_iff_not]
        omega
      refine LR.val q (run_next ?_) (Mu.ext_rfl (Nat.le_refl _)) (rv_s_mk X μ l x) hR
      show Sem.run X.P (asInt _ >>= _) w = _
      rw [Sem.run_bind, show (asInt (#[Value.pointer (some { block := e.blk, off := e.off + o }), Value.int ik ↑l].getLit 1 rfl (Nat.lt_succ_self 1))).run X.P w = .ok (l : Int) w from rfl, Result.andThen_ok]
      have hmax : ¬ ((l : Nat) : Int) > IntKind.i64.max := by
        have h1 : ((l : Nat) : Int) ≤ (big : Int) := by exact_mod_cast Nat.le_of_lt c3
        have := big_lt
        omega
      have hneg : ¬ ((l : Nat) : Int) < 0 := by omega
      have hz : ¬ ((l : Nat) : Int) = 0 := by omega
      have hel : (elemOf ty).run X.P w = .ok el w := by
        unfold elemOf
        rw [Sem.run_bind, F.run_und, Result.andThen_ok]
        rfl
      simp only [List.getElem?_toArray, List.getElem?_cons_zero, if_neg hmax, if_neg hneg, if_neg hz, Sem.run_bind, hel, Result.andThen_ok, Int.toNat_natCast, hv, Sem.run_pure, if_true, hload]
      show Result.ok (Value.string (bytesOf l x)) (w.freeze _ _) = _
      rw [hfz]
  · cases rv_pn ha
    obtain ⟨c1, q⟩ := ok_true.1 q
    cases Nat.eq_of_beq_eq_true c1
    refine LR.val q (run_next ?_) (Mu.ext_rfl (Nat.le_refl _)) hempty R
    rfl
end PH.R
/-
  The reckoner: loud operations: append.
-/
namespace PH.R
open Go Go.RowKit
variable {X : Cx} {μ : Mu} {h : H} {ls : T (Option Lp)} {w0 w : World} {t : TV} {k : Out → Bool}

theorem growBy_le (need : Nat) : ∀ (r c : Nat), 256 ≤ need → Builtin.growBy need r c ≤ max c (2 * need)
  | 0, c, _ => Nat.le_max_left _ _
  | r + 1, c, h => by
    unfold Builtin.growBy
    split
    · exact Nat.le_max_left _ _
    · have := growBy_le need r (c + (c + 768) / 4) h
      omega
theorem nextcap_le {need cap : Nat} (h : cap < need) : Builtin.nextslicecap need cap ≤ 2 * need := by
  unfold Builtin.nextslicecap
  split
  · omega
  · split
    · omega
    · have := growBy_le need 4 cap (by omega)
      omega
theorem run_appendCap' {P : Program} (need old el : Nat) : ∃ c, need ≤ c ∧ (choose (.appendCap need old el)).run P w = .ok c { w with drawn := w.drawn + 1 } :=
  ⟨_, Nat.le_add_right _ _, rfl⟩
theorem fits_true {n bytes : Nat} (h : fits n bytes = true) : n < big ∧ 2 * n * bytes ≤ 2 ^ 48 := by
  unfold fits at h
  have h : n * (4 * (bytes + 1)) < big := by simpa [Nat.blt_eq] using h
  have h1 : n * (4 * (bytes + 1)) = 4 * (n * bytes) + 4 * n := by rw [Nat.mul_left_comm, Nat.mul_add, Nat.mul_add, Nat.mul_one]
  have h2 : 2 * n * bytes = 2 * (n * bytes) := by rw [Nat.mul_assoc]
  have hb : big ≤ 2 ^ 48 := by decide
  constructor <;> omega

/-- What is left of an append behind its types. -/
def appTail (zeros : Bool) (elem : TypeId) (bytes size sLen sCap n : Nat) (base : Option Addr) (s : Value) (zc : Array Value) (appended : Sem (Array Value)) : Sem Value :=
  if sLen + n ≤ sCap then do
    let new ← appended
    (match base with | some a => storeCells (a.add (sLen * size)) new.toList | none => pure ())
    pure (.slice base (sLen + n) sCap)
  else if ((sLen + n : Nat) : Int) > IntKind.i64.max ∧ (zeros ∨ bytes = 0) then stuck ""
  else if Builtin.nextslicecap (sLen + n) sCap * bytes > 2 ^ 48 then stuck ""
  else do
    let newCap ← choose (.appendCap (sLen + n) sCap elem)
    askRoom (newCap * bytes)
    let old ← Builtin.firstCells size sLen s
    let new ← appended
    pure (.slice (some (← newRow elem (old ++ new ++ Builtin.zeroCells zc (newCap - (sLen + n))))) (sLen + n) newCap)

/-- Rows one behind the other. -/
theorem cat_cells {q x : Row} {old new : List Value} (ho : old.length = q.len) (hov : ∀ i u, q.at i = some u → ∃ y, old[i]? = some y ∧ X.Rv μ u y) (hnv : ∀ i u, x.at i = some u → ∃ y, new[i]? = some y ∧ X.Rv μ u y) {r : Row} (hr : ∀ i, r.at i = if i < q.len then q.at i else x.at (i - q.len)) :
    ∀ i v, r.at i = some v → ∃ y, (old ++ new)[i]? = some y ∧ X.Rv μ v y := fun i v hv => by
  rw [hr] at hv
  split at hv
  · rename_i c
    obtain ⟨y, h1, h2⟩ := hov i v hv
    exact ⟨y, by rw [List.getElem?_append_left (by omega)]; exact h1, h2⟩
  · rename_i c
    obtain ⟨y, h1, h2⟩ := hnv _ v hv
    exact ⟨y, by rw [List.getElem?_append_right (by omega), ho]; exact h1, h2⟩

/-- The row behind an append that asked for room. -/
theorem row_grown {r : Row} {fz sz el n nc : Nat} {old new : List Value} {zc : Array Value} (hlen : r.len = n * sz) (ho : old.length + new.length = n * sz) (hz : zc.size = sz) (hc : n ≤ nc) (hv : ∀ i v, r.at i = some v → ∃ y, (old ++ new)[i]? = some y ∧ X.Rv μ v y) (b : Nat) :
    ObjRel X μ (.row r fz sz el) ⟨b, 0, nc⟩ (.cells (old.toArray ++ new.toArray ++ Builtin.zeroCells zc (nc - n)) el (0, 0)) := by
  have hzs : (Builtin.zeroCells zc (nc - n)).size = (nc - n) * sz := by simp [Builtin.zeroCells, hz]
  have hsz : (old.toArray ++ new.toArray ++ Builtin.zeroCells zc (nc - n)).size = nc * sz := by
    rw [Array.size_append, Array.size_append, hzs]
    simp only [List.size_toArray]
    rw [ho, ← Nat.add_mul]
    congr 1; omega
  refine ⟨_, _, rfl, ⟨?_, fun i _ _ => froz0 i, fun i v hi => ?_, fun _ => rfl, fun _ => ?_, fun _ => .inl rfl⟩⟩
  · rw [hsz, hlen]
    have := Nat.mul_le_mul_right sz hc
    simp only; omega
  · obtain ⟨y, h1, h2⟩ := hv i v hi
    refine ⟨y, ?_, h2⟩
    have hlt : i < (old ++ new).length := (List.getElem?_eq_some_iff.1 h1).1
    simp only [Nat.zero_add]
    rw [Array.getElem?_append_left (by simp only [Array.size_append, List.size_toArray]; rw [← List.length_append]; exact hlt)]
    rw [← h1]
    simp
  · simp only [Nat.zero_add]
    rw [hsz, hlen]
    exact ⟨Nat.mul_le_mul_right sz hc, Nat.le_refl _⟩

theorem new_true' {h : H} {x : B} {kk : Pa → H → Bool} (q : h.new x kk = true) : h.next < big ∧ ∃ h' : H, kk (paOf h.next) h' = true ∧ (h'.next = h.next + 1 ∧ ∀ b, h'.get b = if b = paOf h.next then some x else h.get b) :=
  let ⟨a, h', b, c, d⟩ := H.new_true q
  ⟨a, h', b, c, d⟩
theorem mul_beq {a b c : Nat} (h : Nat.beq a (Nat.mul b c) = true) : a = b * c := Nat.eq_of_beq_eq_true h
/-- The append's store, where there is room. -/
theorem run_tail_in {P : Program} {zeros : Bool} {elem bytes size sLen sCap n : Nat} {a : Addr} {s : Value} {zc : Array Value} {ap : Sem (Array Value)} {xs : List Value} {w' : World} (hc : sLen + n ≤ sCap) (hap : ap.run P w = .ok xs.toArray w) (hst : (storeCells (a.add (sLen * size)) xs).run P w = .ok () w') :
    (appTail zeros elem bytes size sLen sCap n (some a) s zc ap).run P w = .ok (.slice (some a) (sLen + n) sCap) w' := by
  unfold appTail
  rw [if_pos hc, Sem.run_bind, hap, Result.andThen_ok, Sem.run_bind]
  simp only [hst, Result.andThen_ok]
  rfl
theorem run_tail_out {P : Program} {zeros : Bool} {elem bytes size sLen sCap n : Nat} {base : Option Addr} {s : Value} {zc : Array Value} {ap : Sem (Array Value)} {xs old : List Value} (hc : ¬ sLen + n ≤ sCap) (hf : fits (sLen + n) bytes = true) (hap : ∀ w' : World, w'.heap = w.heap → ap.run P w' = .ok xs.toArray w') (hold : ∀ w' : World, w'.heap = w.heap → (Builtin.firstCells size sLen s).run P w' = .ok old.toArray w') :
    ∃ nc, sLen + n ≤ nc ∧ (appTail zeros elem bytes size sLen sCap n base s zc ap).run P w = .ok (.slice (some ⟨w.heap.size, 0, none⟩) (sLen + n) nc) { w with heap := w.heap.push (.cells (old.toArray ++ xs.toArray ++ Builtin.zeroCells zc (nc - (sLen + n))) elem (0, 0)), drawn := w.drawn + 1 } := by
  obtain ⟨nc, h1, h2⟩ := run_appendCap' (P := P) (w := w) (sLen + n) sCap elem
  obtain ⟨f1, f2⟩ := fits_true hf
  refine ⟨nc, h1, ?_⟩
  have g1 : ¬ ((((sLen + n : Nat) : Int) > IntKind.i64.max) ∧ (zeros = true ∨ bytes = 0)) := fun c => by
    have := big_lt
    have c := c.1
    have : ((sLen + n : Nat) : Int) < (big : Int) := by exact_mod_cast f1
    omega
  have g2 : ¬ Builtin.nextslicecap (sLen + n) sCap * bytes > 2 ^ 48 := by
    have := nextcap_le (need := sLen + n) (cap := sCap) (by omega)
    have := Nat.mul_le_mul_right bytes this
    omega
  unfold appTail
  rw [if_neg hc, if_neg g1, if_neg g2, Sem.run_bind, h2, Result.andThen_ok, Sem.run_bind, run_askRoom, Result.andThen_ok, Sem.run_bind, hold { w with drawn := w.drawn + 1 } rfl, Result.andThen_ok, Sem.run_bind, hap { w with drawn := w.drawn + 1 } rfl, Result.andThen_ok, Sem.run_bind, run_newRow]
  rfl
/-- What a loud operation that always has a value answers. -/
def VR (X : Cx) (μ : Mu) (h : H) (ls : T (Option Lp)) (w0 w : World) (s : Sem Value) (k : Out → Bool) : Prop :=
  ∃ v h' z w' μ', k (.val v h') = true ∧ s.run X.P w = .ok z w' ∧ Mu.ext h.next h'.next μ μ' ∧ X.Rv μ' v z ∧ HRel X μ' h' ls w0 w'
theorem VR.mk {s : Sem Value} {v : V} {h' : H} {z : Value} {w' : World} {μ' : Mu} (hk : k (.val v h') = true) (hs : s.run X.P w = .ok z w') (hl : Mu.ext h.next h'.next μ μ') (hv : X.Rv μ' v z) (R : HRel X μ' h' ls w0 w') : VR X μ h ls w0 w s k := ⟨v, h', z, w', μ', hk, hs, hl, hv, R⟩
theorem VR.lr {s s' : Sem Value} (V : VR X μ h ls w0 w s k) (hs : ∀ z w', s.run X.P w = .ok z w' → s'.run X.P w = .ok z w') : LR X μ h ls w0 w (do pure (.value (← s'))) k :=
  let ⟨_, _, _, _, _, hk, h1, hl, hv, R⟩ := V
  LR.val hk (run_next (hs _ _ h1)) hl hv R
theorem appK_ok (R : HRel X μ h ls w0 w) {el sz bytes : Nat} {b : Pa} {o len cap : Nat} {r : Row} {n : Nat} {e : Ent} (he : μ b = some e) (q : appK h el sz bytes b o len cap r n k = true) (hlen : r.len = n * sz) {xs : List Value} (hxs : xs.length = n * sz) (hx : ∀ i u, r.at i = some u → ∃ y, xs[i]? = some y ∧ X.Rv μ u y)
    {ap : Sem (Array Value)} (hap : ∀ w' : World, w'.heap = w.heap → ap.run X.P w' = .ok xs.toArray w') {zc : Array Value} (hz : zc.size = sz) (zeros : Bool) : VR X μ h ls w0 w (appTail zeros el bytes sz len cap n (some ⟨e.blk, e.off + o, none⟩) (.slice (some ⟨e.blk, e.off + o, none⟩) len cap) zc ap) k := by
  unfold appK at q
  rw [bc_eq] at q
  split at q
  · rename_i c
    have c : len + n ≤ cap := by simpa using c
    obtain ⟨h', w', hk, hrun, R', hnx, _⟩ := storeR_ok R he q (xs := xs) (by rw [hxs, hlen]) hx
    rw [forceN_eq] at hk
    refine VR.mk hk (run_tail_in c (hap w rfl) ?_) (Mu.ext_rfl (Nat.le_of_eq hnx.symm)) (rv_slk_mk he) R'
    rw [add_at, Nat.add_assoc]
    exact hrun
  · rename_i c
    have c : ¬ len + n ≤ cap := by simpa using c
    obtain ⟨r0, fz, sz', el', hb, q⟩ := asRow_true q
    obtain ⟨c1, q⟩ := ok_true.1 q
    have qs : sliceR h sz (.sl b o len (.k cap)) (fun p _ => p.cat r fun r => h.new (.row r 0 sz el) fun b' h => forceN (Nat.add len n) (slKO k b' 0 0 h)) = true := by
      show asRow (h.get b) _ = true
      rw [hb]
      exact q
    obtain ⟨p, m, q, hpl, hlo, hfc⟩ := sliceR_ok R (rv_slk_mk he) qs
    cases (show (Result.ok len w : Result Nat) = .ok m w from hlo)
    obtain ⟨old, hold, ho1, ho2⟩ := hfc len (Nat.le_refl _)
    obtain ⟨r', q, hr1, hr2, _⟩ := Row.cat_true q
    obtain ⟨hn, h', hk, hh⟩ := new_true' q
    rw [forceN_eq] at hk
    obtain ⟨nc, hnc, hrun⟩ := run_tail_out (P := X.P) (w := w) (zeros := zeros) (elem := el) (base := some ⟨e.blk, e.off + o, none⟩) (zc := zc) c c1 hap hold
    have hlen' : r'.len = (len + n) * sz := by rw [hr1, hpl, hlen, Nat.add_mul]
    have hcells := cat_cells (μ := μ) (by rw [ho1, hpl]) (fun i u hu => ho2 i u (by have := Row.at_some hu; omega) hu) hx hr2
    obtain ⟨R', hle⟩ := R.add (w' := { w with heap := w.heap.push (.cells (old.toArray ++ xs.toArray ++ Builtin.zeroCells zc (nc - (len + n))) el (0, 0)), drawn := w.drawn + 1 }) hn hh ⟨rfl, rfl, rfl, rfl⟩ (off := 0) (cap := nc) (row_grown (fz := 0) (el := el) hlen' (by rw [ho1, hxs, Nat.add_mul]) hz hnc (fun i v hv => let ⟨y, a, b⟩ := hcells i v hv; ⟨y, a, b.mono (Mu.le_set (H.get_none_of R (by rw [num_paOf hn]; exact Nat.le_refl _)).2.2)⟩) _)
    refine VR.mk hk hrun hle ?_ R'
    have := rv_slo_mk (X := X) (b := paOf h.next) (o := 0) (l := len + n) (d := 0) (o0 := 0) (Mu.set_same μ (paOf h.next) ⟨w.heap.size, 0, nc⟩) (by simpa using hnc)
    simpa using this
theorem appO_ok (R : HRel X μ h ls w0 w) {el sz bytes : Nat} {b : Pa} {o len d o0 : Nat} {r : Row} {n : Nat} {e : Ent} (he : μ b = some e) (hd : len + d ≤ e.cap) (h0 : n ≠ 0) (q : appO h el sz bytes b o len d r n k = true) (hlen : r.len = n * sz) {xs : List Value} (hxs : xs.length = n * sz) (hx : ∀ i u, r.at i = some u → ∃ y, xs[i]? = some y ∧ X.Rv μ u y)
    {ap : Sem (Array Value)} (hap : ∀ w' : World, w'.heap = w.heap → ap.run X.P w' = .ok xs.toArray w') {zc : Array Value} (hz : zc.size = sz) (zeros : Bool) {a : Addr} (ha : a = ⟨e.blk, e.off + (if e.cap = d then o0 else o), none⟩) : VR X μ h ls w0 w (appTail zeros el bytes sz len (e.cap - d) n (some a) (.slice (some a) len (e.cap - d)) zc ap) k := by
  unfold appO at q
  obtain ⟨r0, fz, sz', el', hb, q1⟩ := asRow_true q
  clear q
  obtain ⟨c1, q⟩ := ok_true.1 q1
  clear q1
  simp only [Bool.and_eq_true, Nat.blt_eq, Nat.ble_eq] at c1
  obtain ⟨⟨⟨c1, c2⟩, c3⟩, c4⟩ := c1
  cases Nat.eq_of_beq_eq_true c1
  have c2 := mul_beq c2
  obtain ⟨c, f, hc, h2⟩ := R.rowAt hb he
  have hroom := h2.room c3
  rw [bc_eq] at q
  by_cases hin : (Nat.add o (Nat.mul (Nat.add len n) sz)).ble r0.len = true
  · rw [if_pos hin] at q
    have hin : o + (len + n) * sz ≤ r0.len := by simpa using hin
    have hcap : d + (len + n) ≤ e.cap := by
      have h1 : (d + (len + n)) * sz ≤ e.cap * sz := by rw [Nat.add_mul, ← c2]; omega
      exact Nat.le_of_mul_le_mul_right h1 c3
    have hne : e.cap ≠ d := by omega
    rw [if_neg hne] at ha
    subst ha
    obtain ⟨h', w', hk, hrun, R', hnx, _⟩ := storeR_ok R he q (xs := xs) (by rw [hxs, hlen]) hx
    rw [forceN_eq] at hk
    have hst := run_tail_in (zeros := zeros) (elem := el) (bytes := bytes) (s := .slice (some ⟨e.blk, e.off + o, none⟩) len (e.cap - d)) (zc := zc) (size := sz) (sLen := len) (sCap := e.cap - d) (n := n) (a := ⟨e.blk, e.off + o, none⟩) (by omega) (hap w rfl) (w' := w') (by rw [add_at, Nat.add_assoc]; exact hrun)
    refine VR.mk hk hst (Mu.ext_rfl (Nat.le_of_eq hnx.symm)) ?_ R'
    have := rv_slo_mk (X := X) (μ := μ) (b := b) (o := o) (l := len + n) (d := d) (o0 := o) he (by omega)
    simpa using this
  · rw [if_neg hin] at q
    obtain ⟨c5, q2⟩ := ok_true.1 q
    clear q
    have q := q2
    clear q2
    simp only [Bool.and_eq_true] at c5
    obtain ⟨⟨⟨c5, c6⟩, c7⟩, c8⟩ := c5
    have c5 : o + len * sz = r0.len := Nat.eq_of_beq_eq_true c5
    cases Nat.eq_of_beq_eq_true c6
    have q0 := q
    obtain ⟨p, q, hp1, hp2, hp3, hpB⟩ := Row.part_true q
    have hp1 : p.len = len * sz := hp1
    obtain ⟨r', q, hr1, hr2, hrB⟩ := Row.cat_true q
    have hlen' : r'.len = (len + n) * sz := by rw [hr1, hp1, hlen, Nat.add_mul]
    have hdel := R.del b (by rw [hb]; simp)
    obtain ⟨hn, h', hk, hh⟩ := new_true' q
    rw [forceN_eq] at hk
    have hn : h.next < big := hn
    by_cases hcap : len + n ≤ e.cap - d
    · have hne : e.cap ≠ d := by omega
      rw [if_neg hne] at ha
      subst ha
      have hmul : (d + (len + n)) * sz ≤ e.cap * sz := Nat.mul_le_mul_right sz (by omega)
      rw [Nat.add_mul, ← c2, Nat.add_mul] at hmul
      have hsz : e.off + o + len * sz + xs.length ≤ c.size := by rw [hxs]; omega
      have hone : ∀ y ∈ xs, y.oneCell' = true := oneCells c8 (by rw [hxs, hlen]) hx
      have hrun := run_storeCells (P := X.P) xs w c (e.off + o + len * sz) 0 hc (by omega) (fun j a b => h2.free j (by omega) (by omega)) hone
      rw [Nat.add_zero] at hrun
      have hst := run_tail_in (zeros := zeros) (elem := el) (bytes := bytes) (s := .slice (some ⟨e.blk, e.off + o, none⟩) len (e.cap - d)) (zc := zc) (size := sz) (sLen := len) (sCap := e.cap - d) (n := n) (a := ⟨e.blk, e.off + o, none⟩) hcap (hap w rfl) (by rw [add_at]; exact hrun)
      have hnew : w0.heap.size ≤ e.blk := by
        rcases R.fresh b e (.inl (by rw [hb]; simp)) he with a | ⟨r1, fz1, el1, a, a2⟩
        · exact a
        · rw [hb] at a; cases a; omega
      have hget := fun j => layA_get xs c (e.off + o + len * sz) j hsz
      have hnone := (H.get_none_of R (b := paOf h.next) (by rw [num_paOf hn]; exact Nat.le_refl _)).2.2
      have hrow : RowRel X (μ.set (paOf h.next) ⟨e.blk, e.off + o, e.cap - d⟩) r' fz sz ⟨e.blk, e.off + o, e.cap - d⟩ (layA c (e.off + o + len * sz) xs) f := by
        refine ⟨?_, ?_, ?_, fun c => by omega, fun _ => ?_, ?_⟩
        · show e.off + o + r'.len ≤ (layA _ _ _).size
          rw [layA_size, hlen', Nat.add_mul]; rw [hxs] at hsz; omega
        · intro i a b
          rw [layA_size] at b
          exact h2.free i (by simp only at a; omega) b
        · intro i v hv
          show ∃ x, (layA c (e.off + o + len * sz) xs)[e.off + o + i]? = some x ∧ _
          rw [hget]
          have hi := Row.at_some hv
          rw [hlen', Nat.add_mul] at hi
          rw [hr2] at hv
          split at hv
          · rename_i c0
            rw [hp1] at c0
            rw [if_neg (by omega)]
            rw [hp3 i c0] at hv
            obtain ⟨y, y1, y2⟩ := h2.cell _ v hv
            exact ⟨y, by rw [← y1, Nat.add_assoc], y2.mono (Mu.le_set hnone)⟩
          · rename_i c0
            rw [hp1] at c0
            rw [if_pos (by omega)]
            obtain ⟨y, y1, y2⟩ := hx _ v hv
            refine ⟨y, ?_, y2.mono (Mu.le_set hnone)⟩
            rw [← y1, hp1]
            congr 1; omega
        · show r'.len ≤ (e.cap - d) * sz ∧ e.off + o + (e.cap - d) * sz ≤ (layA _ _ _).size
          rw [layA_size, hlen']
          have h3 : d * sz + (e.cap - d) * sz = e.cap * sz := by rw [← Nat.add_mul]; congr 1; omega
          exact ⟨Nat.mul_le_mul_right sz hcap, by omega⟩
        · intro hB
          rcases h2.hull (by rw [← hpB, ← hrB]; exact hB) with a | a
          · exact .inl a
          · right
            show f.2 ≤ e.off + o + fz
            omega
      obtain ⟨R', hle⟩ := R.move (x' := .row r' fz sz el) (e' := ⟨e.blk, e.off + o, e.cap - d⟩) (o' := .cells (layA c (e.off + o + len * sz) xs) el f) (h' := h') hb he hn hh hnew rfl ⟨_, f, rfl, hrow⟩ rfl
      refine VR.mk hk hst hle ?_ R'
      have := rv_slo_mk (X := X) (b := paOf h.next) (o := 0) (l := len + n) (d := 0) (o0 := 0) (Mu.set_same μ (paOf h.next) ⟨e.blk, e.off + o, e.cap - d⟩) (by simpa using hcap)
      simp only [Nat.add_zero, ite_self, Nat.sub_zero] at this
      exact this
    · have qs : sliceR h sz (.sl b o len (.op d o0)) (fun p' _ => p'.cat r fun r => (h.del b).new (.row r fz sz el) fun b' h => forceN (Nat.add len n) (slKO k b' 0 0 h)) = true := by
        show asRow (h.get b) _ = true
        rw [hb]
        exact q0
      subst ha
      obtain ⟨p2, m, q2, hpl, hlo, hfc⟩ := sliceR_ok R (rv_slo_mk (o := o) (o0 := o0) he hd) qs
      cases (show (Result.ok len w : Result Nat) = .ok m w from hlo)
      obtain ⟨old, hold, ho1, ho2⟩ := hfc len (Nat.le_refl _)
      obtain ⟨r2, q3, hr1', hr2', _⟩ := Row.cat_true q2
      obtain ⟨hn', h2', hk', hh'⟩ := new_true' q3
      rw [forceN_eq] at hk'
      have hn' : h.next < big := hn'
      obtain ⟨nc, hnc, hrun⟩ := run_tail_out (P := X.P) (w := w) (zeros := zeros) (elem := el) (base := some ⟨e.blk, e.off + (if e.cap = d then o0 else o), none⟩) (zc := zc) hcap c7 hap hold
      have hlen'' : r2.len = (len + n) * sz := by rw [hr1', hpl, hlen, Nat.add_mul]
      have hcells := cat_cells (μ := μ) (by rw [ho1, hpl]) (fun i u hu => ho2 i u (by have := Row.at_some hu; omega) hu) hx hr2'
      obtain ⟨R', hle⟩ := HRel.add (w' := { w with heap := w.heap.push (.cells (old.toArray ++ xs.toArray ++ Builtin.zeroCells zc (nc - (len + n))) el (0, 0)), drawn := w.drawn + 1 }) hdel hn' hh' ⟨rfl, rfl, rfl, rfl⟩ (off := 0) (cap := nc) (row_grown (fz := fz) (el := el) hlen'' (by rw [ho1, hxs, Nat.add_mul]) hz hnc (fun i v hv => let ⟨y, a, b⟩ := hcells i v hv; ⟨y, a, b.mono (Mu.le_set (H.get_none_of R (by show h.next ≤ (paOf h.next).num; rw [num_paOf hn']; exact Nat.le_refl _)).2.2)⟩) _)
      refine VR.mk hk' hrun hle ?_ R'
      have := rv_slo_mk (X := X) (b := paOf h.next) (o := 0) (l := len + n) (d := 0) (o0 := 0) (Mu.set_same μ (paOf h.next) ⟨w.heap.size, 0, nc⟩) (by simpa using hnc)
      simp only [Nat.add_zero, ite_self, Nat.sub_zero] at this
      exact this
end PH.R
/-
  The reckoner: loud operations: append, both ways.
-/
namespace PH.R
open Go Go.RowKit
variable {X : Cx} {μ : Mu} {h : H} {ls : T (Option Lp)} {w0 w : World} {t : TV} {k : Out → Bool}

theorem run_tail_0 {P : Program} {zeros : Bool} {elem bytes size sLen sCap : Nat} {base : Option Addr} {s : Value} {zc : Array Value} {ap : Sem (Array Value)} (hc : sLen ≤ sCap) (hap : ap.run P w = .ok #[] w) :
    (appTail zeros elem bytes size sLen sCap 0 base s zc ap).run P w = .ok (.slice base sLen sCap) w := by
  unfold appTail
  rw [if_pos (by simpa using hc), Sem.run_bind, hap, Result.andThen_ok, Sem.run_bind]
  cases base <;> rfl
theorem appV_ok (R : HRel X μ h ls w0 w) {el sz bytes : Nat} {by0 : Bool} {s : V} {A : Value} (ha : X.Rv μ s A) {r : Row} {n : Nat} (q : appV h el sz bytes by0 s r n k = true) (hlen : r.len = n * sz) {xs : List Value} (hxs : xs.length = n * sz) (hx : ∀ i u, r.at i = some u → ∃ y, xs[i]? = some y ∧ X.Rv μ u y)
    {ap : Sem (Array Value)} (hap : ∀ w' : World, w'.heap = w.heap → ap.run X.P w' = .ok xs.toArray w') {zc : Array Value} (hz : zc.size = sz) (zeros : Bool) : ∃ base sLen sCap, A = .slice base sLen sCap ∧ VR X μ h ls w0 w (appTail zeros el bytes sz sLen sCap n base A zc ap) k := by
  unfold appV at q
  rw [bc_eq] at q
  by_cases c : Nat.beq n 0 = true
  · rw [if_pos c] at q
    cases Nat.eq_of_beq_eq_true c
    have hxs0 : xs = [] := List.length_eq_zero_iff.1 (by rw [hxs, Nat.zero_mul])
    subst hxs0
    rcases asSlN_true q with ⟨b, o, l, cp, e1, q1⟩ | ⟨e1, q1⟩ <;> subst e1
    · obtain ⟨c1, q2⟩ := ok_true.1 q1
      cases cp with
      | k cap =>
        obtain ⟨e, he, rfl⟩ := rv_slk ha
        have c1 : l ≤ cap := by simpa using c1
        exact ⟨_, _, _, rfl, VR.mk q2 (run_tail_0 c1 (hap w rfl)) (Mu.ext_rfl (Nat.le_refl _)) ha R⟩
      | op d o0 =>
        obtain ⟨e, he, hd, rfl⟩ := rv_slo ha
        exact ⟨_, _, _, rfl, VR.mk q2 (run_tail_0 (by omega) (hap w rfl)) (Mu.ext_rfl (Nat.le_refl _)) ha R⟩
    · cases rv_sn ha
      exact ⟨_, _, _, rfl, VR.mk q1 (run_tail_0 (Nat.le_refl _) (hap w rfl)) (Mu.ext_rfl (Nat.le_refl _)) ha R⟩
  · rw [if_neg c] at q
    have c : n ≠ 0 := fun e => c (by rw [e]; rfl)
    rcases asSlN_true q with ⟨b, o, l, cp, e1, q1⟩ | ⟨e1, q1⟩ <;> subst e1
    · cases cp with
      | k cap =>
        obtain ⟨e, he, rfl⟩ := rv_slk ha
        exact ⟨_, _, _, rfl, appK_ok R he q1 hlen hxs hx hap hz zeros⟩
      | op d o0 =>
        obtain ⟨e, he, hd, rfl⟩ := rv_slo ha
        exact ⟨_, _, _, rfl, appO_ok R he hd c q1 hlen hxs hx hap hz zeros rfl⟩
    · cases rv_sn ha
      obtain ⟨c1, q2⟩ := ok_true.1 q1
      obtain ⟨r', q3, hr1, hr2, _⟩ := Row.cat_true q2
      obtain ⟨hn, h', hk, hh⟩ := new_true' q3
      have hempty : (bc by0 (Row.bs 0 0) (Row.li [])).len = 0 := by cases by0 <;> rfl
      obtain ⟨nc, hnc, hrun⟩ := run_tail_out (P := X.P) (w := w) (zeros := zeros) (elem := el) (bytes := bytes) (base := none) (s := .slice none 0 0) (size := sz) (sLen := 0) (sCap := 0) (n := n) (zc := zc) (old := []) (by omega) (by rw [Nat.zero_add]; exact c1) hap (fun _ _ => rfl)
      rw [Nat.zero_add] at hnc
      have hlen' : r'.len = n * sz := by rw [hr1, hempty, hlen, Nat.zero_add]
      have hcells := cat_cells (μ := μ) (old := []) (by rw [hempty]; rfl) (fun i u hu => by have := Row.at_some hu; omega) hx hr2
      obtain ⟨R', hle⟩ := R.add (w' := { w with heap := w.heap.push (.cells (#[] ++ xs.toArray ++ Builtin.zeroCells zc (nc - n)) el (0, 0)), drawn := w.drawn + 1 }) hn hh ⟨rfl, rfl, rfl, rfl⟩ (off := 0) (cap := nc) (row_grown (old := []) (fz := 0) (el := el) hlen' (by rw [hxs]; simp) hz hnc (fun i v hv => let ⟨y, a, b⟩ := hcells i v hv; ⟨y, a, b.mono (Mu.le_set (H.get_none_of R (by rw [num_paOf hn]; exact Nat.le_refl _)).2.2)⟩) _)
      simp only [Nat.zero_add] at hrun
      refine ⟨_, _, _, rfl, VR.mk hk hrun hle ?_ R'⟩
      have := rv_slo_mk (X := X) (b := paOf h.next) (o := 0) (l := n) (d := 0) (o0 := 0) (Mu.set_same μ (paOf h.next) ⟨w.heap.size, 0, nc⟩) (by simpa using hnc)
      simp only [Nat.add_zero, ite_self, Nat.sub_zero] at this
      exact this

theorem TyFacts.run_cells' {P : Program} {ty : TypeId} {i : D.Ty} {inf : TypeInfo} {d : TypeDesc} (F : TyFacts P ty i inf d) {z : List V} (hz : i.cells = some z) (hP : X.P = P) : ∃ Z, (∀ w, (zeroValue ty).run P w = .ok Z w) ∧ ∀ μ, X.Rvs μ z Z.cells.toList := by
  subst hP
  obtain ⟨v, hv, rfl⟩ := cells_some hz
  rw [F.zero, Option.bind_eq_some_iff] at hv
  obtain ⟨x, hx, hv⟩ := hv
  refine ⟨x, fun w => ?_, fun μ => rvs_cells' (vOf_ok (X := X) (μ := μ) x v hv)⟩
  unfold zeroValue
  rw [Sem.run_bind, F.run_info, Result.andThen_ok, hx]; rfl

section
variable {el sz bytes : Nat} {by0 : Bool} {s x : Xv} {A B : Value} {ty xt : TypeId} {i j jx : D.Ty} {inf inf' inf'' : TypeInfo} {dd dx : TypeDesc}
theorem lApp_ok (R : HRel X μ h ls w0 w) (ha : X.Rv μ (s t) A) (hb : X.Rv μ (x t) B) (q : lApp el sz bytes by0 s x t h k = true) (F : TyFacts X.P ty i inf (.slice el)) (G : TyFacts X.P el j inf' dd) (E : TyFacts X.P xt jx inf'' dx) (hx : ∀ ik, dx ≠ .int ik) (hs : j.size = sz) (hby : j.bytes = bytes) {z : List V} (hz : j.cells = some z) (hzs : z.length = sz) (rt : TypeId) : LR X μ h ls w0 w (do pure (.value (← Builtin.append_ #[ty, xt] rt #[A, B]))) k := by
  obtain ⟨r, n, q, hlen, hlo, hfc⟩ := sliceR_ok R hb q
  obtain ⟨xs, hap, hxs, hxv⟩ := hfc n (Nat.le_refl _)
  obtain ⟨Z, h1, h2⟩ := G.run_cells' (X := X) hz rfl
  have hZ : Z.cells.size = sz := by rw [← hzs, ← rvs_length (h2 μ), Array.length_toList]
  obtain ⟨base, sLen, sCap, rfl, L⟩ := appV_ok (ap := Builtin.firstCells sz n B) R ha q hlen hxs (fun i u hu => hxv i u (by have := Row.at_some hu; omega) hu) hap hZ false
  refine L.lr fun z w' hrun => ?_
  show Sem.run X.P (underlying ty >>= _) w = _
  rw [Sem.run_bind, F.run_und, Result.andThen_ok]
  show Sem.run X.P (Go.sizeOf el >>= _) w = _
  rw [Sem.run_bind, G.run_size, Result.andThen_ok]
  simp only [List.getElem?_toArray, List.getElem?_cons_zero, List.getElem?_cons_succ, List.getElem_toArray, List.getElem_cons_zero, List.getElem_cons_succ, Sem.run_bind, E.run_und, Result.andThen_ok, Sem.run_pure, Bool.false_eq_true, if_false, Bool.not_false, if_true, hlo]
  by_cases c : sLen + n ≤ sCap
  · unfold appTail at hrun
    rw [if_pos c] at hrun ⊢
    cases base <;> simp only [Sem.run_bind] at hrun ⊢ <;> rw [hs] <;> exact hrun
  · unfold appTail at hrun
    rw [if_neg c] at hrun ⊢
    split at hrun
    · cases hrun
    · rename_i g1
      split at hrun
      · cases hrun
      · rename_i g2
        simp only [Sem.run_bind, PH.R.run_typeInfo G.info, ← G.bytes, hby, Result.andThen_ok] at hrun ⊢
        simp only [Bool.false_eq_true, false_or] at g1
        simp only [false_or, if_neg g1, Sem.run_bind, PH.R.run_typeInfo G.info, Result.andThen_ok, ← G.bytes, hby, if_neg g2, hs, h1]
        exact hrun
theorem lAppZ_ok (R : HRel X μ h ls w0 w) {z : List V} (ha : X.Rv μ (s t) A) (hb : X.Rv μ (x t) B) (q : lAppZ el sz bytes by0 z s x t h k = true) (F : TyFacts X.P ty i inf (.slice el)) (G : TyFacts X.P el j inf' dd) (E : TyFacts X.P xt jx inf'' dx) {ik : IntKind} (hx : dx = .int ik) (hs : j.size = sz) (hby : j.bytes = bytes) (hz : j.cells = some z) (h8 : by0 = D.isU8 j) (rt : TypeId) : LR X μ h ls w0 w (do pure (.value (← Builtin.append_ #[ty, xt] rt #[A, B]))) k := by
  subst hx
  obtain ⟨ik', n, e1, q⟩ := asN_true q
  rw [e1] at hb
  cases rv_i hb
  obtain ⟨c1, q1⟩ := ok_true.1 q
  obtain ⟨c1, c2⟩ := (Bool.and_eq_true ..).mp c1
  have hzs : z.length = sz := by rw [← lenL_zero]; exact Nat.eq_of_beq_eq_true c2
  obtain ⟨Z, h1, h2⟩ := G.run_cells' (X := X) hz rfl
  have hZ : Z.cells.size = sz := by rw [← hzs, ← rvs_length (h2 μ), Array.length_toList]
  obtain ⟨f1, f2⟩ := fits_true c1
  have hrep := rvs_rep (h2 μ) n (n * Z.cells.size) rfl
  let xs : List Value := (Builtin.zeroCells Z.cells n).toList
  have hxs : xs.length = n * sz := by
    show (Builtin.zeroCells Z.cells n).toList.length = _
    rw [Array.length_toList]
    simp [Builtin.zeroCells, hZ]
  have hap : ∀ w' : World, w'.heap = w.heap → ((if n * sz = 0 then pure #[] else do pure (Builtin.zeroCells (← zeroValue el).cells n) : Sem (Array Value))).run X.P w' = .ok xs.toArray w' := by
    intro w' _
    split
    · rename_i h0
      rw [h0] at hxs
      have : xs = [] := List.length_eq_zero_iff.1 hxs
      rw [this]; rfl
    · rw [Sem.run_bind, h1, Result.andThen_ok]
      show Result.ok _ _ = Result.ok _ _
      congr 1
  have hrow : (bc by0 (.bs n 0) (.li (repCells z n)) : Row).len = n * sz ∧ ∀ i u, (bc by0 (.bs n 0) (.li (repCells z n)) : Row).at i = some u → ∃ y, xs[i]? = some y ∧ X.Rv μ u y := by
    cases hb0 : by0 with
    | false =>
      refine ⟨by rw [show (bc false (.bs n 0) (.li (repCells z n)) : Row) = .li (repCells z n) from rfl, Row.len_li, repCells_length, hzs], fun i u hu => rvs_nth hrep hu⟩
    | true =>
      rw [hb0] at h8
      obtain ⟨g1, g2, g3, g4⟩ := isU8_some h8.symm
      have hz1 : z = [.i .u8 0] := by
        unfold D.Ty.cells at hz
        rw [g4] at hz
        cases hz; rfl
      refine ⟨by rw [← hs, g2, Nat.mul_one]; rfl, fun i u hu => ?_⟩
      rw [show (bc true (.bs n 0) (.li (repCells z n)) : Row) = .bs n 0 from rfl, zero_u8] at hu
      split at hu
      · rename_i hi
        cases hu
        exact rvs_nth hrep (i := i) (v := .i .u8 0) (by rw [hz1, repCells_get, if_pos (by simpa using hi)]; simp [Nat.mod_one])
      · cases hu
  obtain ⟨base, sLen, sCap, rfl, L⟩ := appV_ok R ha q1 hrow.1 hxs hrow.2 hap hZ true
  refine L.lr fun z w' hrun => ?_
  show Sem.run X.P (underlying ty >>= _) w = _
  rw [Sem.run_bind, F.run_und, Result.andThen_ok]
  show Sem.run X.P (Go.sizeOf el >>= _) w = _
  rw [Sem.run_bind, G.run_size, Result.andThen_ok]
  have hw : IntKind.i64.wrap (n : Int) = n := wrap_big (Nat.le_of_lt f1)
  have hn0 : ¬ (n : Int) < 0 := by omega
  have hn1 : ¬ (n : Int) * (bytes : Int) > 2 ^ 48 := by
    have : ((2 * n * bytes : Nat) : Int) ≤ ((2 ^ 48 : Nat) : Int) := by exact_mod_cast f2
    rw [Nat.mul_assoc, Int.natCast_mul, Int.natCast_mul] at this
    have h0 : (0 : Int) ≤ (n : Int) * (bytes : Int) := Int.mul_nonneg (by omega) (by omega)
    omega
  simp only [List.getElem?_toArray, List.getElem?_cons_zero, List.getElem?_cons_succ, List.getElem_toArray, List.getElem_cons_zero, List.getElem_cons_succ, Sem.run_bind, E.run_und, Result.andThen_ok, Sem.run_pure, if_true, run_asInt, hw, if_neg hn0, PH.R.run_typeInfo G.info, ← G.bytes, hby, if_neg hn1, Int.toNat_natCast, Bool.not_true, Bool.false_eq_true, if_false]
  by_cases c : sLen + n ≤ sCap
  · unfold appTail at hrun
    rw [if_pos c] at hrun ⊢
    cases base <;> simp only [Sem.run_bind] at hrun ⊢ <;> rw [hs] <;> exact hrun
  · unfold appTail at hrun
    rw [if_neg c] at hrun ⊢
    split at hrun
    · cases hrun
    · rename_i g1
      split at hrun
      · cases hrun
      · rename_i g2
        simp only [Sem.run_bind, PH.R.run_typeInfo G.info, ← G.bytes, hby, Result.andThen_ok] at hrun ⊢
        simp only [true_or, and_true] at g1
        simp only [true_or, and_true, if_neg g1, Sem.run_bind, PH.R.run_typeInfo G.info, Result.andThen_ok, ← G.bytes, hby, if_neg g2, hs, h1]
        exact hrun
end
end PH.R
