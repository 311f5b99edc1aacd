/-
  The reckoner: operations as they are written, and what the model does: types; how values are held equal.
-/
import Derived.Test.YtmnmdlmmeldiiaaGreatDoorRecD
import Derived.AtR
import Derived.Defers
import Derived.RangeFuncIn
import Derived.Orders
set_option linter.unusedVariables false
set_option linter.unusedSimpArgs false
namespace PH.R
open Go Go.RowKit
variable {X : Cx} {μ : Mu} {h : H} {ls : T (Option Lp)} {w0 w : World} {t : TV}

/-- Types as they are known. -/
def TyOk (P : Program) (ty : Nat → Option D.Ty) : Prop := ∀ t i, ty t = some i → D.tyOf P t = some i
theorem TyOk.facts {P : Program} {ty : Nat → Option D.Ty} (T : TyOk P ty) {t : Nat} {i : D.Ty} (h : ty t = some i) : ∃ inf d, TyFacts P t i inf d := tyOf_facts (T t i h)
theorem TyOk.of {P : Program} {ty : Nat → Option D.Ty} (T : TyOk P ty) {t : Nat} {i : D.Ty} {k : D.TK} (h : ty t = some i) (hk : i.k = k) : ∃ inf d, TyFacts P t i inf d ∧ D.kOf d = k := by
  obtain ⟨inf, d, F⟩ := T.facts h
  exact ⟨inf, d, F, by rw [← F.k, hk]⟩
theorem tyOf_held {P : Program} {t : TypeId} {i : D.Ty} (h : D.tyOf P t = some i) (hh : i.held = false) : P.stoodInHeld t = false ∧ P.eqGuardType P.depth t = false := by
  unfold D.tyOf at h
  split at h
  · cases h
    exact (Bool.or_eq_false_iff).1 hh
  · cases h
section
variable {P : Program} {ty : Nat → Option D.Ty}
theorem TyOk.sl (T : TyOk P ty) {t e : Nat} {i : D.Ty} (h : ty t = some i) (hk : i.k = .sl e) : ∃ inf, TyFacts P t i inf (.slice e) := by
  obtain ⟨inf, d, F, hd⟩ := T.of h hk; rw [kOf_sl hd] at F; exact ⟨inf, F⟩
theorem TyOk.arr (T : TyOk P ty) {t n e : Nat} {i : D.Ty} (h : ty t = some i) (hk : i.k = .arr n e) : ∃ inf, TyFacts P t i inf (.array n e) := by
  obtain ⟨inf, d, F, hd⟩ := T.of h hk; rw [kOf_arr hd] at F; exact ⟨inf, F⟩
theorem TyOk.map (T : TyOk P ty) {t n e : Nat} {i : D.Ty} (h : ty t = some i) (hk : i.k = .map n e) : ∃ inf, TyFacts P t i inf (.map n e) := by
  obtain ⟨inf, d, F, hd⟩ := T.of h hk; rw [kOf_map hd] at F; exact ⟨inf, F⟩
theorem TyOk.ptr (T : TyOk P ty) {t e : Nat} {i : D.Ty} (h : ty t = some i) (hk : i.k = .ptr e) : ∃ inf, TyFacts P t i inf (.pointer e) := by
  obtain ⟨inf, d, F, hd⟩ := T.of h hk; rw [kOf_ptr hd] at F; exact ⟨inf, F⟩
theorem TyOk.str (T : TyOk P ty) {t : Nat} {i : D.Ty} (h : ty t = some i) (hk : i.k = .str) : ∃ inf, TyFacts P t i inf .string := by
  obtain ⟨inf, d, F, hd⟩ := T.of h hk; rw [kOf_str hd] at F; exact ⟨inf, F⟩
theorem TyOk.uns (T : TyOk P ty) {t : Nat} {i : D.Ty} (h : ty t = some i) (hk : i.k = .uns) : ∃ inf, TyFacts P t i inf .unsafePointer := by
  obtain ⟨inf, d, F, hd⟩ := T.of h hk; rw [kOf_uns hd] at F; exact ⟨inf, F⟩
theorem TyOk.int (T : TyOk P ty) {t : Nat} {i : D.Ty} {ik : IntKind} (h : ty t = some i) (hk : i.k = .int ik) : ∃ inf, TyFacts P t i inf (.int ik) := by
  obtain ⟨inf, d, F, hd⟩ := T.of h hk; rw [kOf_int hd] at F; exact ⟨inf, F⟩
theorem TyOk.bool (T : TyOk P ty) {t : Nat} {i : D.Ty} (h : ty t = some i) (hk : i.k = .bool) : ∃ inf, TyFacts P t i inf .bool := by
  obtain ⟨inf, d, F, hd⟩ := T.of h hk; rw [kOf_bool hd] at F; exact ⟨inf, F⟩
theorem TyOk.st (T : TyOk P ty) {t : Nat} {i : D.Ty} {fs : List (Nat × Nat × Bool)} (h : ty t = some i) (hk : i.k = .st fs) : ∃ inf gs, TyFacts P t i inf (.struct gs) ∧ fs = gs.toList.map fun f => (f.offset, f.type, f.name == "_") := by
  obtain ⟨inf, d, F, hd⟩ := T.of h hk
  obtain ⟨gs, rfl, e⟩ := kOf_st hd
  exact ⟨inf, gs, F, e⟩
theorem TyOk.ifc (T : TyOk P ty) {t : Nat} {i : D.Ty} (h : ty t = some i) (hk : i.k = .ifc) : ∃ inf m, TyFacts P t i inf (.interface m) := by
  obtain ⟨inf, d, F, hd⟩ := T.of h hk
  obtain ⟨m, rfl⟩ := kOf_ifc hd
  exact ⟨inf, m, F⟩
theorem TyOk.func (T : TyOk P ty) {t : Nat} {i : D.Ty} (h : ty t = some i) (hk : i.k = .func) : ∃ inf a b c, TyFacts P t i inf (.func a b c) := by
  obtain ⟨inf, d, F, hd⟩ := T.of h hk
  obtain ⟨a, b, c, rfl⟩ := kOf_func hd
  exact ⟨inf, a, b, c, F⟩
theorem TyOk.nifc (T : TyOk P ty) {t : Nat} {i : D.Ty} (h : ty t = some i) (hk : i.k ≠ .ifc) : ∃ inf d, TyFacts P t i inf d ∧ ∀ m, d ≠ .interface m := by
  obtain ⟨inf, d, F⟩ := T.facts h
  refine ⟨inf, d, F, fun m e => hk ?_⟩
  rw [F.k, e]; rfl

mutual
theorem teOf_ok (T : TyOk P ty) : ∀ (d t : Nat) (e : TE), D.teOf ty d t = some e → TeTy P e t ∧ e.deep ≤ d + 1
  | 0, _, _, h => by cases h
  | d + 1, t, e, h => by
    unfold D.teOf at h
    split at h
    · rename_i i hi
      split at h
      · rename_i hk; cases h
        obtain ⟨inf, F⟩ := T.bool hi hk
        exact ⟨F.und, by simp [TE.deep]⟩
      · rename_i ik hk; cases h
        obtain ⟨inf, F⟩ := T.int hi hk
        exact ⟨⟨ik, F.und⟩, by simp [TE.deep]⟩
      · rename_i hk; cases h
        obtain ⟨inf, F⟩ := T.str hi hk
        exact ⟨F.und, by simp [TE.deep]⟩
      · rename_i n el hk
        obtain ⟨inf, F⟩ := T.arr hi hk
        split at h
        · rename_i j hj
          split at h
          · rename_i hc
            obtain ⟨hc1, hc2, hc3⟩ := hc
            split at h <;> first | (cases h; done) | skip
            · rename_i hjk; cases h
              obtain ⟨inf', G⟩ := T.bool hj hjk
              exact ⟨⟨el, inf', F.und, G.info, by rw [← G.size]; exact hc1, G.und⟩, by simp [TE.deep]⟩
            · rename_i ik hjk; cases h
              obtain ⟨inf', G⟩ := T.int hj hjk
              exact ⟨⟨el, inf', F.und, G.info, by rw [← G.size]; exact hc1, ⟨ik, G.und⟩⟩, by simp [TE.deep]⟩
            · rename_i hjk; cases h
              obtain ⟨inf', G⟩ := T.str hj hjk
              exact ⟨⟨el, inf', F.und, G.info, by rw [← G.size]; exact hc1, G.und⟩, by simp [TE.deep]⟩
          · cases h
        · cases h
      · rename_i fs hk
        obtain ⟨inf, gs, F, rfl⟩ := T.st hi hk
        split at h
        · cases h
        · rename_i hheld
          split at h
          · rename_i l hl
            cases h
            obtain ⟨a, b⟩ := teFs_ok T d gs.toList l hl
            exact ⟨⟨gs, F.und, (tyOf_held (T _ _ hi) (by simpa using hheld)).1, a⟩, by simp only [TE.deep]; omega⟩
          · cases h
      · cases h
    · cases h
theorem teFs_ok (T : TyOk P ty) : ∀ (d : Nat) (gs : List Field) (l : List (Nat × Nat × TE)), D.teFs ty d (gs.map fun f => (f.offset, f.type, f.name == "_")) = some l → FsTy P l gs ∧ fsDeep l ≤ d
  | 0, _, _, h => by cases h
  | d + 1, [], l, h => by
    have h : some [] = some l := h
    cases h
    exact ⟨trivial, by simp [fsDeep]⟩
  | d + 1, g :: gs, l, h => by
    rw [List.map_cons] at h
    unfold D.teFs at h
    split at h
    · cases h
    · rename_i hb
      split at h
      · rename_i i e l' hi he hl
        cases h
        obtain ⟨inf, dd, F⟩ := T.facts hi
        obtain ⟨a1, a2⟩ := teOf_ok T d g.type e he
        obtain ⟨b1, b2⟩ := teFs_ok T d gs l' hl
        refine ⟨⟨by simpa using hb, rfl, ⟨inf, F.info, F.size.symm⟩, a1, b1⟩, ?_⟩
        simp only [fsDeep]
        omega
      · cases h
end
end
theorem maxDepth_eq : Go.Op.maxDepth = 10000 := rfl
theorem teOf_key {P : Program} {ty : Nat → Option D.Ty} (T : TyOk P ty) {t : Nat} {e : TE} (h : D.teOf ty 40 t = some e) : TeTy P e t ∧ e.deep ≤ Go.Op.maxDepth := by
  obtain ⟨a, b⟩ := teOf_ok T 40 t e h
  exact ⟨a, by rw [maxDepth_eq]; omega⟩
end PH.R
/-
  The reckoner: operations as they are written, and what the model does: quiet ones.
-/
namespace PH.R
open Go Go.RowKit
variable {X : Cx} {μ : Mu} {h : H} {ls : T (Option Lp)} {w0 w : World} {t : TV}

/-- What an operation answers, and what the model's does. -/
def SR (X : Cx) (μ : Mu) (h : H) (ls : T (Option Lp)) (w0 w : World) (t : TV) (s : S) (sem : Sem Next) : Prop := match s with
  | .q f => ∀ k, f t h k = true → ∃ v x, k v = true ∧ X.Rv μ v x ∧ sem.run X.P w = .ok (.value x) w
  | .a f => ∀ k, f t k = true → ∃ (x : B) (mk : Pa → V) (o : Obj) (z : Value) (w' : World) (off cap : Nat), k x mk = true ∧ sem.run X.P w = .ok (.value z) w' ∧ (w'.heap = w.heap.push o ∧ w'.os = w.os ∧ w'.tape = w.tape ∧ w'.output = w.output) ∧
    ∀ n μ', Mu.le μ μ' → μ' n = some ⟨w.heap.size, off, cap⟩ → X.Rv μ' (mk n) z ∧ ObjRel X μ' x ⟨w.heap.size, off, cap⟩ o
  | .l f => ∀ k, f t h k = true → LR X μ h ls w0 w sem k
theorem SR.q {f : Qo} {s : Sem Value} (H : ∀ k, f t h k = true → QR X μ w s k) : SR X μ h ls w0 w t (.q f) (do pure (.value (← s))) := fun k q =>
  let ⟨v, x, a, b, c⟩ := H k q
  ⟨v, x, a, b, run_next c⟩
theorem SR.a {f : Ao} {s : Sem Value} (H : ∀ k, f t k = true → AR X μ w s k) : SR X μ h ls w0 w t (.a f) (do pure (.value (← s))) := fun k q =>
  let ⟨x, mk, o, z, w', off, cap, a, b, c, d⟩ := H k q
  ⟨x, mk, o, z, w', off, cap, a, run_next b, c, d⟩
theorem SR.bad {sem : Sem Next} : SR X μ h ls w0 w t (.l lBad) sem := fun k q => by cases q

theorem bind_some {α β : Type} {x : Option α} {f : α → Option β} {b : β} (h : (x >>= f) = some b) : ∃ a, x = some a ∧ f a = some b := Option.bind_eq_some_iff.1 h
theorem pure_some {α : Type} {a b : α} (h : (pure a : Option α) = some b) : a = b := Option.some.inj h

/-- What is known wherever an operation is done. -/
structure Sit (X : Cx) (ty : Nat → Option D.Ty) (ts : List (Nat × TE)) (μ : Mu) (h : H) (ls : T (Option Lp)) (w0 w : World) (ev : Operand → Value) : Prop where
  tt : TyOk X.P ty
  mm : MsOk X
  ts : TsOk X.P ts
  R : HRel X μ h ls w0 w
  E : EvOk ev

section
variable {ty : Nat → Option D.Ty} {ts : List (Nat × TE)} {ev : Operand → Value}
abbrev Xs (X : Cx) (μ : Mu) (t : TV) (ev : Operand → Value) (l : List Operand) : Prop := ∀ x ∈ l, XOk X μ t ev x

theorem Sit.x (S : Sit X ty ts μ h ls w0 w ev) {x : Operand} {d : D.X} (hx : XOk X μ t ev x) (hd : D.xOf X.P.globals.size x = some d) : X.Rv μ (sX d t) (ev x) := xOf_ok S.R S.E hx hd
theorem Sit.xs (S : Sit X ty ts μ h ls w0 w ev) {l : List Operand} {d : List D.X} (hx : Xs X μ t ev l) (hd : D.xsOf X.P.globals.size l = some d) : X.Rvs μ (evs t (sXs d)) (l.map ev) := xsOf_ok S.R S.E hx hd
theorem Sit.xo (S : Sit X ty ts μ h ls w0 w ev) {x : Option Operand} {d : Option D.X} (hx : ∀ y, x = some y → XOk X μ t ev y) (hd : D.xo X.P.globals.size x = some d) : OptOk X μ t (sXo d) (x.map ev) := by
  cases x with
  | none => cases hd; trivial
  | some x =>
    obtain ⟨y, hy, rfl⟩ := Option.map_eq_some_iff.1 (show (D.xOf X.P.globals.size x).map some = some d from hd)
    exact S.x (hx x rfl) hy

/-! How values are held equal -/
theorem run_eqGuard_agg {P : Program} {op : BinOp} {ty : TypeId} {x y : Operand} {a b : Value} (hg : P.eqGuardType P.depth ty = false) (hn : ¬ (a = .nilIface ∧ b = .nilIface)) : (eqGuard op ty x y a b).run P w = .ok () w := by
  unfold eqGuard
  cases op <;> (try rfl) <;> (cases a <;> cases b <;> first | rfl | exact absurd ⟨rfl, rfl⟩ hn | (simp only [Bool.not_true, Bool.false_eq_true, if_false, Sem.run_bind, run_program, Result.andThen_ok, hg]; rfl))
theorem run_eqGuard_const {P : Program} {op : BinOp} {ty : TypeId} {x y : Operand} {a b : Value} (hc : D.isC x = true ∨ D.isC y = true) (hn : ¬ ∃ l m, a = .agg l ∧ b = .agg m) : (eqGuard op ty x y a b).run P w = .ok () w := by
  have hx : ∀ z, D.isC z = true → ∃ v, z = .const v := fun z hz => by
    cases z <;> first | exact ⟨_, rfl⟩ | cases hz
  rcases hc with hc | hc
  · obtain ⟨v, rfl⟩ := hx _ hc
    unfold eqGuard
    cases op <;> (try rfl) <;> (cases a <;> cases b <;> first | rfl | exact absurd ⟨_, _, rfl, rfl⟩ hn | (simp only [Bool.not_true, Bool.false_eq_true, if_false, Bool.true_or, if_true]; rfl))
  · obtain ⟨v, rfl⟩ := hx _ hc
    unfold eqGuard
    cases op <;> (try rfl) <;> (cases a <;> cases b <;> first | rfl | exact absurd ⟨_, _, rfl, rfl⟩ hn | (simp only [Bool.not_true, Bool.false_eq_true, if_false, Bool.or_true, if_true]; rfl))
theorem agg_not_nil {te : TE} {x y : V} {b : Bool} {A : Value} (q : eqTE te x y = some b) (ha : X.Rv μ x A) : A ≠ .nilIface := fun e => by
  subst e
  cases x with
  | ni => cases te <;> cases y <;> cases q
  | fm n tb a =>
    obtain ⟨_, _, _, e⟩ := rv_fm ha; cases e
  | ic t v => obtain ⟨_, _, e⟩ := rv_ic ha; cases e
  | fu f a c => obtain ⟨_, _, _, _, e⟩ := rv_fu ha; cases e
  | fy l => obtain ⟨_, _, e⟩ := rv_fy ha; cases e
  | mp l => obtain ⟨_, _, e⟩ := rv_mp ha; cases e
  | p l => obtain ⟨_, _, e⟩ := rv_p ha; cases e
  | sl b o l c => obtain ⟨_, _, _, _, e, _⟩ := rv_sl' ha; cases e
  | ag l => obtain ⟨_, _, e⟩ := rv_ag ha; cases e
  | tu l => obtain ⟨_, _, e⟩ := rv_tu ha; cases e
  | i k n => cases rv_i ha
  | b x => cases rv_b ha
  | s l n => cases rv_s ha
  | pn => cases rv_pn ha
  | sn => cases rv_sn ha
  | mn => cases rv_mn ha
  | fn => cases rv_fn ha
theorem told_te {te : TE} {x y : V} {b : Bool} {A : Value} (q : eqTE te x y = some b) (hte : te ≠ .int ∧ te ≠ .str) (ha : X.Rv μ x A) : Told A := by
  cases te with
  | int => exact absurd rfl hte.1
  | str => exact absurd rfl hte.2
  | bool =>
    cases x <;> first | (cases y <;> cases q; done) | skip
    cases rv_b ha; trivial
  | arr n e =>
    cases x <;> first | (cases y <;> cases q; done) | skip
    obtain ⟨_, _, rfl⟩ := rv_ag ha; trivial
  | st fs =>
    cases x <;> first | (cases y <;> cases q; done) | skip
    obtain ⟨_, _, rfl⟩ := rv_ag ha; trivial
end
end PH.R
/-
  The reckoner: operations as they are written, and what the model does: '=='.
-/
namespace PH.R
open Go Go.RowKit
variable {X : Cx} {μ : Mu} {h : H} {ls : T (Option Lp)} {w0 w : World} {t : TV} {k : V → Bool}
variable {ty : Nat → Option D.Ty} {ts : List (Nat × TE)} {ev : Operand → Value}

theorem fn_not {x y : V} (q : ∃ b, eqNilF x y = some b) {A B : Value} (ha : X.Rv μ x A) : ¬ (A = .nilIface ∧ B = .nilIface) ∧ ¬ ∃ l m, A = .agg l ∧ B = .agg m := by
  obtain ⟨b, q⟩ := q
  cases x with
  | fn => cases rv_fn ha; simp
  | fu f a c => obtain ⟨_, _, _, _, rfl⟩ := rv_fu ha; simp
  | fy l => obtain ⟨_, _, rfl⟩ := rv_fy ha; simp
  | fm n tb a => obtain ⟨_, _, _, rfl⟩ := rv_fm ha; simp
  | _ => cases y <;> cases q
theorem teOf_held {P : Program} (T : TyOk P ty) {t : Nat} {i : D.Ty} {e : TE} (hi : ty t = some i) (hk : (∃ fs, i.k = .st fs) ∨ ∃ n el, i.k = .arr n el) (h : D.teOf ty 40 t = some e) : P.eqGuardType P.depth t = false ∧ e ≠ .int ∧ e ≠ .str := by
  unfold D.teOf at h
  rw [hi] at h
  simp only at h
  rcases hk with ⟨fs, hk⟩ | ⟨n, el, hk⟩ <;> rw [hk] at h <;> simp only at h
  · split at h
    · cases h
    · rename_i hh
      split at h
      · cases h
        exact ⟨(tyOf_held (T _ _ hi) (by simpa using hh)).2, by simp, by simp⟩
      · cases h
  · split at h
    · split at h
      · rename_i hc
        obtain ⟨_, _, hh⟩ := hc
        split at h <;> first | (cases h; done) | (cases h; exact ⟨(tyOf_held (T _ _ hi) hh).2, by simp, by simp⟩)
      · cases h
    · cases h
theorem eqTE_equal (te : TE) {x y : V} {b : Bool} {A B : Value} (q : eqTE te x y = some b) (ha : X.Rv μ x A) (hb : X.Rv μ y B) {t : TypeId} (ht : TeTy X.P te t) (hd : te.deep ≤ Go.Op.maxDepth) : (Go.Op.equal t A B).run X.P w = .ok b w :=
  eqTE_ok te q ha hb ht hd
theorem eqv_ok (S : Sit X ty ts μ h ls w0 w ev) {tt : TypeId} {x y : Operand} {x' y' : Xv} {neg : Bool} (ha : X.Rv μ (x' t) (ev x)) (hb : X.Rv μ (y' t) (ev y)) (q : qEqv neg (sEq (D.eqOf ty ts tt x y)) x' y' t h k = true) :
    QR X μ w (do eqGuard (if neg then .neq else .eql) tt x y (ev x) (ev y); Go.binOp (if neg then .neq else .eql) tt (ev x) (ev y)) k := by
  have main : (∀ b, sEq (D.eqOf ty ts tt x y) (x' t) (y' t) = some b → (Told (ev x) ∧ (Go.Op.equal tt (ev x) (ev y)).run X.P w = .ok b w) ∧ ∀ op, (eqGuard op tt x y (ev x) (ev y)).run X.P w = .ok () w) →
      QR X μ w (do eqGuard (if neg then .neq else .eql) tt x y (ev x) (ev y); Go.binOp (if neg then .neq else .eql) tt (ev x) (ev y)) k := fun H => by
    obtain ⟨⟨b, hb⟩, v, z, h1, h2, h3⟩ := qEqv_ok (fun b hb => (H b hb).1) q
    refine ⟨v, z, h1, h2, ?_⟩
    rw [Sem.run_bind, (H b hb).2, Result.andThen_ok, h3]
  apply main
  intro b
  unfold D.eqOf
  split
  · rename_i i hi
    intro hq
    obtain ⟨inf, F⟩ := S.tt.bool hi rfl
    refine ⟨⟨told_te hq ⟨by simp, by simp⟩ ha, eqTE_equal .bool hq ha hb F.und (by simp [TE.deep, maxDepth_eq])⟩, fun op => ?_⟩
    refine run_eqGuard_none (.inr ⟨fun c => agg_not_nil hq ha c.1, ?_⟩)
    rintro ⟨l, m, h1, h2⟩
    revert hq
    cases hx : x' t <;> cases hy : y' t <;> intro hq <;> first | (cases hq; done) | skip
    rw [hx, h1] at ha
    cases rv_b ha
  · rename_i e i hi
    obtain ⟨inf, F⟩ := S.tt.ptr hi rfl
    intro hq
    have hno : ¬ (ev x = .nilIface ∧ ev y = .nilIface) ∧ ¬ ∃ l m, ev x = .agg l ∧ ev y = .agg m := by
      have : x' t = .pn ∨ ∃ b o, x' t = .p b o := by
        split at hq
        · cases hx : x' t <;> rw [hx] at hq <;> first | exact .inl rfl | exact .inr ⟨_, _, rfl⟩ | (cases hy : y' t <;> rw [hy] at hq <;> cases hq)
        · split at hq
          · split at hq
            · cases hq
            · cases hx : x' t <;> rw [hx] at hq <;> first | exact .inl rfl | exact .inr ⟨_, _, rfl⟩ | (cases hy : y' t <;> rw [hy] at hq <;> cases hq)
          · cases hq
      rcases this with e | ⟨b, o, e⟩ <;> rw [e] at ha
      · rw [rv_pn ha]; simp
      · obtain ⟨_, _, e⟩ := rv_p ha; rw [e]; simp
    refine ⟨?_, fun op => run_eqGuard_none (.inr hno)⟩
    split at hq
    · exact eqNilP_ok hq ha hb F.und
    · split at hq
      · rename_i j hj
        obtain ⟨inf', d', G⟩ := S.tt.facts hj
        split at hq
        · cases hq
        · rename_i hs
          exact eqPtr_ok hq ha hb F.und G.info (by rw [← G.size]; exact hs)
      · cases hq
  · rename_i i hi
    obtain ⟨inf, m, F⟩ := S.tt.ifc hi rfl
    intro hq
    have hnag : ¬ ∃ l m, ev x = .agg l ∧ ev y = .agg m := by
      have : x' t = .ni ∨ ∃ u v, x' t = .ic u v := by
        split at hq <;> (cases hx : x' t <;> rw [hx] at hq <;> first | exact .inl rfl | exact .inr ⟨_, _, rfl⟩ | (cases hy : y' t <;> rw [hy] at hq <;> cases hq))
      rcases this with e | ⟨u, v, e⟩ <;> rw [e] at ha
      · rw [rv_ni ha]; simp
      · obtain ⟨_, _, e⟩ := rv_ic ha; rw [e]; simp
    split at hq
    · rename_i hc
      exact ⟨eqNilI_ok hq ha hb F.und, fun op => run_eqGuard_const (by simpa using hc) hnag⟩
    · obtain ⟨h1, h2, h3⟩ := eqIfc_ok S.ts hq ha hb F.und
      exact ⟨⟨h1, h2⟩, fun op => run_eqGuard_none (.inr ⟨h3, hnag⟩)⟩
  · rename_i e i hi
    obtain ⟨inf, F⟩ := S.tt.sl hi rfl
    intro hq
    refine ⟨eqNilS_ok hq ha hb F.und, fun op => run_eqGuard_none (.inr ?_)⟩
    cases hx : x' t <;> rw [hx] at hq ha <;> first | (rw [rv_sn ha]; simp; done) | (obtain ⟨_, _, _, _, e, _⟩ := rv_sl' ha; rw [e]; simp; done) | (cases hy : y' t <;> rw [hy] at hq <;> cases hq)
  · rename_i kt e i hi
    obtain ⟨inf, F⟩ := S.tt.map hi rfl
    intro hq
    refine ⟨eqNilM_ok hq ha hb F.und, fun op => run_eqGuard_none (.inr ?_)⟩
    cases hx : x' t <;> rw [hx] at hq ha <;> first | (rw [rv_mn ha]; simp; done) | (obtain ⟨_, _, e⟩ := rv_mp ha; rw [e]; simp; done) | (cases hy : y' t <;> rw [hy] at hq <;> cases hq)
  · rename_i i hi
    obtain ⟨inf, a1, a2, a3, F⟩ := S.tt.func hi rfl
    intro hq
    exact ⟨eqNilF_ok hq ha hb F.und, fun op => run_eqGuard_none (.inr (fn_not ⟨b, hq⟩ ha))⟩
  · rename_i fs i hi
    intro hq
    split at hq
    · rename_i e he
      obtain ⟨h1, h2⟩ := teOf_key S.tt he
      obtain ⟨h3, h4⟩ := teOf_held S.tt hi (.inl ⟨_, rfl⟩) he
      exact ⟨⟨told_te hq h4 ha, eqTE_equal e hq ha hb h1 h2⟩, fun op => run_eqGuard_agg h3 fun c => agg_not_nil hq ha c.1⟩
    · cases hq
  · rename_i n el i hi
    intro hq
    split at hq
    · rename_i e he
      obtain ⟨h1, h2⟩ := teOf_key S.tt he
      obtain ⟨h3, h4⟩ := teOf_held S.tt hi (.inr ⟨_, _, rfl⟩) he
      exact ⟨⟨told_te hq h4 ha, eqTE_equal e hq ha hb h1 h2⟩, fun op => run_eqGuard_agg h3 fun c => agg_not_nil hq ha c.1⟩
    · cases hq
  · intro hq; cases hq
end PH.R
/-
  The reckoner: operations as they are written, and what the model does: quiet ones, continued.
-/
namespace PH.R
open Go Go.RowKit
variable {X : Cx} {μ : Mu} {h : H} {ls : T (Option Lp)} {w0 w : World} {t : TV}
variable {ty : Nat → Option D.Ty} {ts : List (Nat × TE)} {ev : Operand → Value}

theorem ints_no {A B : Value} (h : ∃ ik n ik' n', A = .int ik n ∧ B = .int ik' n') : ¬ (A = .nilIface ∧ B = .nilIface) ∧ ¬ ∃ l m, A = .agg l ∧ B = .agg m := by
  obtain ⟨_, _, _, _, rfl, rfl⟩ := h
  simp
theorem strs_no {A B : Value} (h : ∃ a b, A = .string a ∧ B = .string b) : ¬ (A = .nilIface ∧ B = .nilIface) ∧ ¬ ∃ l m, A = .agg l ∧ B = .agg m := by
  obtain ⟨_, _, rfl, rfl⟩ := h
  simp
theorem guarded {op : BinOp} {tt : TypeId} {x y : Operand} {k : V → Bool} (hno : ¬ (ev x = .nilIface ∧ ev y = .nilIface) ∧ ¬ ∃ l m, ev x = .agg l ∧ ev y = .agg m) (H : QR X μ w (Go.binOp op tt (ev x) (ev y)) k) : QR X μ w (do eqGuard op tt x y (ev x) (ev y); Go.binOp op tt (ev x) (ev y)) k := by
  obtain ⟨v, z, h1, h2, h3⟩ := H
  refine ⟨v, z, h1, h2, ?_⟩
  rw [Sem.run_bind, run_eqGuard_none (.inr hno), Result.andThen_ok, h3]
theorem arith_ok {op : BinOp} {x y : D.X} {a b tt : _} (ha : X.Rv μ (sX x t) (ev a)) (hb : X.Rv μ (sX y t) (ev b)) : SR X μ h ls w0 w t (sOp (.arith op x y)) (do pure (.value (← (do eqGuard op tt a b (ev a) (ev b); Go.binOp op tt (ev a) (ev b))))) := by
  have key : ∀ {f : Io}, IoOk f op → SR X μ h ls w0 w t (.q (qI f (sX x) (sX y))) (do pure (.value (← (do eqGuard op tt a b (ev a) (ev b); Go.binOp op tt (ev a) (ev b))))) := fun hf => SR.q fun k q => by
    obtain ⟨h1, h2⟩ := qI_ok (w := w) hf ha hb q
    exact guarded (ints_no h1) (h2 tt)
  cases op <;> simp only [sOp]
  · exact key iAdd_ok
  · exact key iSub_ok
  · exact key iMul_ok
  · exact key iQuo_ok
  · exact key iRem_ok
  · exact key iAnd_ok
  · exact key iOr_ok
  · exact key iXor_ok
  all_goals first | exact SR.bad | exact key iAndNot_ok | exact key iEql_ok | exact key iNeq_ok | exact key iLss_ok | exact key iLeq_ok | exact key iGtr_ok | exact key iGeq_ok
theorem shift_ok {op : BinOp} {x y : D.X} {a b tt : _} (ha : X.Rv μ (sX x t) (ev a)) (hb : X.Rv μ (sX y t) (ev b)) : SR X μ h ls w0 w t (sOp (.shift op x y)) (do pure (.value (← (do eqGuard op tt a b (ev a) (ev b); Go.binOp op tt (ev a) (ev b))))) := by
  have key : ∀ {f : Io}, ShOk f op → SR X μ h ls w0 w t (.q (qSh f (sX x) (sX y))) (do pure (.value (← (do eqGuard op tt a b (ev a) (ev b); Go.binOp op tt (ev a) (ev b))))) := fun hf => SR.q fun k q => by
    obtain ⟨h1, h2⟩ := qSh_ok (w := w) hf ha hb q
    exact guarded (ints_no h1) (h2 tt)
  cases op <;> simp only [sOp] <;> first | exact SR.bad | exact key iShl_ok | exact key iShr_ok
theorem strop_ok {op : BinOp} {x y : D.X} {a b tt : _} (ha : X.Rv μ (sX x t) (ev a)) (hb : X.Rv μ (sX y t) (ev b)) : SR X μ h ls w0 w t (sOp (.str op x y)) (do pure (.value (← (do eqGuard op tt a b (ev a) (ev b); Go.binOp op tt (ev a) (ev b))))) := by
  have key : ∀ {f : So}, SoOk f op → SR X μ h ls w0 w t (.q (qStr f (sX x) (sX y))) (do pure (.value (← (do eqGuard op tt a b (ev a) (ev b); Go.binOp op tt (ev a) (ev b))))) := fun hf => SR.q fun k q => by
    obtain ⟨h1, h2⟩ := qStr_ok (w := w) hf ha hb q
    exact guarded (strs_no h1) (h2 tt)
  cases op <;> simp only [sOp] <;> first | exact SR.bad | exact key sAdd_ok | exact key sEql_ok | exact key sNeq_ok | exact key sLss_ok | exact key sLeq_ok | exact key sGtr_ok | exact key sGeq_ok
/-- A field, as types tell it. -/
theorem field_of {P : Program} (T : TyOk P ty) {s : Nat} {i : D.Ty} {fs : List (Nat × Nat × Bool)} (hi : ty s = some i) (hk : i.k = .st fs) {n : Nat} {f : Nat × Nat × Bool} (hf : fs[n]? = some f) : ∃ inf gs g, TyFacts P s i inf (.struct gs) ∧ gs[n]? = some g ∧ f = (g.offset, g.type, g.name == "_") := by
  obtain ⟨inf, gs, F, rfl⟩ := T.st hi hk
  rw [List.getElem?_map, Option.map_eq_some_iff] at hf
  obtain ⟨g, hg, rfl⟩ := hf
  exact ⟨inf, gs, g, F, by rw [← Array.getElem?_toList]; exact hg, rfl⟩
theorem build_ok (S : Sit X ty ts μ h ls w0 w ev) {tt : Nat} {ps : Array (Nat × Operand)} {d : D.Op} (hx : Xs X μ t ev (Op.build tt ps).operands.toList) {rt pos aft g dst} (hd : D.opOf ty X.ms ts X.P.globals.size ⟨dst, .build tt ps, rt, pos, aft, g⟩ = some d) : SR X μ h ls w0 w t (sOp d) (do pure (.value (← Instr.build tt (ps.map fun (i, x) => (i, ev x))))) := by
  have hps : ∀ p ∈ ps.toList, XOk X μ t ev p.2 := fun p hp => hx p.2 (by simp only [Op.operands, List.mem_map]; exact ⟨p, hp, rfl⟩)
  have harr : (ps.toList.map fun p => (p.1, ev p.2)).toArray = ps.map fun (i, x) => (i, ev x) := by
    apply Array.ext'
    simp
  simp only [D.opOf] at hd
  obtain ⟨i, hi, hd⟩ := bind_some hd
  obtain ⟨z, hz, hd⟩ := bind_some hd
  split at hd
  · rename_i fs hk
    split at hd
    · rename_i hall
      obtain ⟨ds, hds, rfl⟩ := Option.map_eq_some_iff.1 hd
      obtain ⟨inf, gs, F, rfl⟩ := S.tt.st hi hk
      refine SR.q fun k q => ?_
      rw [← harr]
      refine qBuild_ok S.R S.E hds hps q F hz (.inl ⟨⟨gs, rfl, fun n p hp => ?_⟩, ?_⟩)
      · unfold D.placeOf at hp
        split at hp
        · rename_i f hf
          split at hp
          · rename_i j hj
            cases hp
            obtain ⟨_, _, g, F', hg, rfl⟩ := field_of S.tt hi hk hf
            obtain ⟨inf', d', G⟩ := S.tt.facts hj
            rw [List.getElem?_map, Option.map_eq_some_iff] at hf
            obtain ⟨g', hg', e⟩ := hf
            simp only [Prod.mk.injEq] at e
            refine ⟨g', by rw [← Array.getElem?_toList]; exact hg', e.1.symm, ⟨inf', by rw [e.2.1]; exact G.info, G.size⟩⟩
          · cases hp
        · cases hp
      · intro fs' hfs f hf
        cases hfs
        rw [List.all_eq_true] at hall
        have := hall (f.offset, f.type, f.name == "_") (List.mem_map.2 ⟨f, by simpa using hf, rfl⟩)
        obtain ⟨j, hj⟩ := Option.isSome_iff_exists.1 this
        obtain ⟨inf', d', G⟩ := S.tt.facts hj
        exact ⟨inf', G.info⟩
    · cases hd
  · rename_i n e hk
    obtain ⟨j, hj, hd⟩ := bind_some hd
    obtain ⟨ds, hds, hd⟩ := bind_some hd
    obtain rfl := pure_some hd
    obtain ⟨inf, F⟩ := S.tt.arr hi hk
    obtain ⟨inf', d', G⟩ := S.tt.facts hj
    refine SR.q fun k q => ?_
    rw [← harr]
    exact qBuild_ok S.R S.E hds hps q F hz (.inr ⟨n, e, j, inf', d', rfl, G, fun _ => rfl⟩)
  · cases hd
theorem bslice_ok (S : Sit X ty ts μ h ls w0 w ev) {tt len : Nat} {ps : Array (Nat × Operand)} {d : D.Op} (hx : Xs X μ t ev (Op.buildSlice tt len ps).operands.toList) {rt pos aft g dst} (hd : D.opOf ty X.ms ts X.P.globals.size ⟨dst, .buildSlice tt len ps, rt, pos, aft, g⟩ = some d) : SR X μ h ls w0 w t (sOp d) (do pure (.value (← Instr.buildSlice tt len (ps.map fun (i, x) => (i, ev x))))) := by
  have hps : ∀ p ∈ ps.toList, XOk X μ t ev p.2 := fun p hp => hx p.2 (by simp only [Op.operands, List.mem_map]; exact ⟨p, hp, rfl⟩)
  have harr : (ps.toList.map fun p => (p.1, ev p.2)).toArray = ps.map fun (i, x) => (i, ev x) := by
    apply Array.ext'
    simp
  simp only [D.opOf] at hd
  obtain ⟨i, hi, hd⟩ := bind_some hd
  split at hd
  · rename_i e hk
    obtain ⟨j, hj, hd⟩ := bind_some hd
    split at hd
    · cases hd
    · rename_i hsmall
      obtain ⟨z, hz, hd⟩ := bind_some hd
      obtain ⟨ds, hds, hd⟩ := bind_some hd
      obtain rfl := pure_some hd
      obtain ⟨inf, F⟩ := S.tt.sl hi hk
      obtain ⟨inf', d', G⟩ := S.tt.facts hj
      refine SR.a fun k q => ?_
      rw [← harr]
      exact aBslice_ok S.R S.E hds hps q F G hz rfl hsmall
  · cases hd
theorem convert_ok (S : Sit X ty ts μ h ls w0 w ev) {src dst' : Nat} {x : Operand} {d : D.Op} (hx : XOk X μ t ev x) {rt pos aft g dst} (hd : D.opOf ty X.ms ts X.P.globals.size ⟨dst, .convert src dst' x, rt, pos, aft, g⟩ = some d) : SR X μ h ls w0 w t (sOp d) (do pure (.value (← Go.convert src dst' (ev x)))) := by
  simp only [D.opOf] at hd
  obtain ⟨i, hi, hd⟩ := bind_some hd
  obtain ⟨j, hj, hd⟩ := bind_some hd
  split at hd
  · rename_i k1 k2 h1 h2
    obtain ⟨x', hx', hd⟩ := bind_some hd
    obtain rfl := pure_some hd
    obtain ⟨inf, F⟩ := S.tt.int hi h1
    obtain ⟨inf', G⟩ := S.tt.int hj h2
    exact SR.q fun k q => qInt_ok (S.x hx hx') q F G rfl
  · rename_i h1 h2
    obtain ⟨x', hx', hd⟩ := bind_some hd
    obtain rfl := pure_some hd
    obtain ⟨inf, F⟩ := S.tt.str hi h1
    obtain ⟨inf', G⟩ := S.tt.str hj h2
    refine SR.q fun k q => ?_
    obtain ⟨len, n, e1, q⟩ := asS_true q
    have ha := S.x hx hx'
    rw [e1] at ha
    rw [rv_s ha]
    have q : ok (Nat.ble len len) (ok (Nat.ble 0 len) (mkS (Nat.sub len 0) (cutN n 0 (Nat.sub len 0)) k)) = true := q
    obtain ⟨_, q⟩ := ok_true.1 q
    obtain ⟨_, q⟩ := ok_true.1 q
    rw [mkS_eq] at q
    refine ⟨_, _, q, rv_string X μ _ _, ?_⟩
    unfold Go.convert
    rw [Sem.run_bind, F.run_und, Result.andThen_ok, Sem.run_bind, G.run_und, Result.andThen_ok]
    show Result.ok (Value.string (bytesOf len n)) w = Result.ok (Value.string (bytesOf len (cutN n 0 len))) w
    rw [bytesOf_congr (n := n) (m := cutN n 0 len) fun i hi => by rw [byteAt_cutN hi, Nat.zero_add]]
  · rename_i e h1 h2
    obtain ⟨m, hm, hd⟩ := bind_some hd
    obtain ⟨inf, F⟩ := S.tt.str hi h1
    obtain ⟨inf', G⟩ := S.tt.sl hj h2
    split at hd
    · rename_i h3
      obtain ⟨x', hx', hd⟩ := bind_some hd
      obtain rfl := pure_some hd
      obtain ⟨inf'', E⟩ := S.tt.int hm h3
      exact SR.a fun k q => aSB_ok (S.x hx hx') q F G E
    · rename_i h3
      obtain ⟨x', hx', hd⟩ := bind_some hd
      obtain rfl := pure_some hd
      obtain ⟨inf'', E⟩ := S.tt.int hm h3
      exact SR.a fun k q => aSR_ok (S.x hx hx') q F G E
    · cases hd
  · rename_i e h1 h2
    obtain ⟨m, hm, hd⟩ := bind_some hd
    obtain ⟨inf, F⟩ := S.tt.sl hi h1
    obtain ⟨inf', G⟩ := S.tt.str hj h2
    split at hd
    · rename_i h3
      obtain ⟨x', hx', hd⟩ := bind_some hd
      obtain rfl := pure_some hd
      obtain ⟨inf'', E⟩ := S.tt.int hm h3
      exact SR.q fun k q => qBS_ok S.R (S.x hx hx') q F G E
    · cases hd
  · rename_i ik h1 h2
    obtain ⟨x', hx', hd⟩ := bind_some hd
    obtain rfl := pure_some hd
    obtain ⟨inf, F⟩ := S.tt.int hi h1
    obtain ⟨inf', G⟩ := S.tt.str hj h2
    exact SR.q fun k q => qIS_ok (S.x hx hx') q F G
  · rename_i e h1 h2
    obtain ⟨m, hm, hd⟩ := bind_some hd
    split at hd
    · cases hd
    · rename_i hs
      obtain ⟨x', hx', hd⟩ := bind_some hd
      obtain rfl := pure_some hd
      obtain ⟨inf, F⟩ := S.tt.ptr hi h1
      obtain ⟨inf', G⟩ := S.tt.uns hj h2
      obtain ⟨inf'', d', E⟩ := S.tt.facts hm
      exact SR.q fun k q => qPU_ok S.R (S.x hx hx') q F G E hs
  · rename_i e h1 h2
    obtain ⟨m, hm, hd⟩ := bind_some hd
    obtain ⟨x', hx', hd⟩ := bind_some hd
    obtain rfl := pure_some hd
    obtain ⟨inf, F⟩ := S.tt.uns hi h1
    obtain ⟨inf', G⟩ := S.tt.ptr hj h2
    obtain ⟨inf'', d', E⟩ := S.tt.facts hm
    exact SR.q fun k q => qUP_ok S.R (S.x hx hx') q F G E rfl
  · cases hd
end PH.R
/-
  The reckoner: operations as they are written, and what the model does: calls.
-/
namespace PH.R
open Go Go.RowKit
variable {X : Cx} {μ : Mu} {h : H} {ls : T (Option Lp)} {w0 w : World} {t : TV}
variable {ty : Nat → Option D.Ty} {ts : List (Nat × TE)} {ev : Operand → Value}

theorem lClearM_ok {k : Out → Bool} (R : HRel X μ h ls w0 w) {x : Xv} {A : Value} (ha : X.Rv μ (x t) A) (q : lClearM x t h k = true) {ty kt e : TypeId} {i : D.Ty} {inf : TypeInfo} (F : TyFacts X.P ty i inf (.map kt e)) (rt : TypeId) : LR X μ h ls w0 w (do pure (.value (← Builtin.clear_ #[ty] rt #[A]))) k := by
  rcases asMp_true q with ⟨r, e1, q1⟩ | ⟨e1, q1⟩ <;> rw [e1] at ha
  · obtain ⟨en, he, rfl⟩ := rv_mp ha
    obtain ⟨es, clock, hb, q2⟩ := asMap_true q1
    obtain ⟨m, h1, h2⟩ := R.mapAt hb he
    refine LR.val q2 (run_next ?_) (Mu.ext_rfl (Nat.le_refl _)) (rv_und X μ) (R.setMap hb he (m' := #[]) (c' := clock) trivial)
    show Sem.run X.P (underlying ty >>= _) w = _
    rw [Sem.run_bind, F.run_und, Result.andThen_ok]
    simp only [List.getElem_toArray, List.getElem_cons_zero, Sem.run_bind, run_getObj h1 (by simp), Result.andThen_ok, run_setObj h1 (by simp), Sem.run_pure]
  · cases rv_mn ha
    refine LR.val q1 (run_next ?_) (Mu.ext_rfl (Nat.le_refl _)) (rv_und X μ) R
    show Sem.run X.P (underlying ty >>= _) w = _
    rw [Sem.run_bind, F.run_und, Result.andThen_ok]
    rfl
theorem xsOf_list {gs : Nat} : ∀ {l : List Operand} {d : List D.X}, D.xsOf gs l = some d → l.length = d.length
  | [], d, h => by cases h; rfl
  | x :: l, d, h => by
    simp only [D.xsOf] at h
    split at h
    · rename_i y r hy hr
      cases h
      rw [List.length_cons, List.length_cons, xsOf_list hr]
    · cases h
theorem xsOf_cons {gs : Nat} {x : Operand} {l : List Operand} {d : List D.X} (h : D.xsOf gs (x :: l) = some d) : ∃ y r, d = y :: r ∧ D.xOf gs x = some y ∧ D.xsOf gs l = some r := by
  simp only [D.xsOf] at h
  split at h
  · rename_i y r hy hr
    cases h
    exact ⟨y, r, rfl, hy, hr⟩
  · cases h
theorem builtin_S {c : Call} {b : Builtin} (hc : c.callee = .builtin b) (rt : TypeId) : callS ev c rt = builtin b c.argTypes rt (c.args.map fun | .const _ => true | _ => false) (c.args.map ev) := by
  unfold callS resolve
  rw [hc]
  rfl
/-- The arguments of a builtin, one by one. -/
theorem args1 {c : Call} {gs : Nat} {x : D.X} (h : D.xsOf gs c.args.toList = some [x]) : ∃ a, c.args = #[a] ∧ D.xOf gs a = some x ∧ ∀ ev : Operand → Value, c.args.map ev = #[ev a] := by
  have := xsOf_list h
  match hc : c.args.toList, this with
  | [a], _ =>
    rw [hc] at h
    obtain ⟨y, r, e, h1, h2⟩ := xsOf_cons h
    cases e
    have e : c.args = #[a] := by apply Array.ext'; simpa using hc
    exact ⟨a, e, h1, fun ev => by rw [e]; simp⟩
theorem args2 {c : Call} {gs : Nat} {x y : D.X} (h : D.xsOf gs c.args.toList = some [x, y]) : ∃ a b, c.args = #[a, b] ∧ D.xOf gs a = some x ∧ D.xOf gs b = some y ∧ ∀ ev : Operand → Value, c.args.map ev = #[ev a, ev b] := by
  have := xsOf_list h
  match hc : c.args.toList, this with
  | [a, b], _ =>
    rw [hc] at h
    obtain ⟨y, r, e, h1, h2⟩ := xsOf_cons h
    cases e
    obtain ⟨y, r, e, h3, h4⟩ := xsOf_cons h2
    cases e
    have e : c.args = #[a, b] := by apply Array.ext'; simpa using hc
    exact ⟨a, b, e, h1, h3, fun ev => by rw [e]; simp⟩
theorem tys_eq {c : Call} {l : List Nat} (h : c.argTypes.toList = l) : c.argTypes = l.toArray := by
  apply Array.ext'; simpa using h
theorem call_ok (S : Sit X ty ts μ h ls w0 w ev) {c : Call} {d : D.Op} (hx : Xs X μ t ev c.operands.toList) (hd : D.callOp ty X.ms X.P.globals.size c = some d) (rt : TypeId) : SR X μ h ls w0 w t (sOp d) (callS ev c rt) := by
  have hargs : Xs X μ t ev c.args.toList := fun x hm => hx x (by
    unfold Call.operands
    simp only [Array.toList_append, List.mem_append]
    exact .inr hm)
  unfold D.callOp at hd
  obtain ⟨args, ha, hd⟩ := bind_some hd
  have hA := S.xs hargs ha
  split at hd
  · rename_i f hc
    obtain rfl := pure_some hd
    exact fun k q => lCall_ok S.E hc hA q rt
  · rename_i f hc hcc
    obtain ⟨f', hf, hd⟩ := bind_some hd
    obtain rfl := pure_some hd
    have hff := S.x (hx f (by unfold Call.operands; rw [hcc]; simp)) hf
    exact fun k q => lCallV_ok hcc hff hA q rt
  · rename_i r n hc
    obtain ⟨r', hr, hd⟩ := bind_some hd
    obtain rfl := pure_some hd
    have hff := S.x (hx r (by unfold Call.operands; rw [hc]; simp)) hr
    exact fun k q => lInv_ok hc hff hA q rt
  · rename_i b hc
    rw [builtin_S hc]
    split at hd
    · -- len
      rename_i x tt htt
      obtain ⟨a, haa, hax, hmap⟩ := args1 ha
      have hX := S.x (hargs a (by rw [haa]; simp)) hax
      rw [tys_eq htt, hmap]
      obtain ⟨i, hi, hd⟩ := bind_some hd
      split at hd
      · rename_i n e hk
        obtain rfl := pure_some hd
        obtain ⟨inf, F⟩ := S.tt.arr hi hk
        exact SR.q fun k q => qLenA_ok (ev a) q F rt
      · rename_i hk
        obtain rfl := pure_some hd
        obtain ⟨inf, F⟩ := S.tt.str hi hk
        exact SR.q fun k q => qLenS_ok hX q F rt
      · rename_i e hk
        obtain rfl := pure_some hd
        obtain ⟨inf, F⟩ := S.tt.sl hi hk
        exact SR.q fun k q => qLen_ok hX q F rt
      · rename_i kt e hk
        obtain rfl := pure_some hd
        obtain ⟨inf, F⟩ := S.tt.map hi hk
        exact SR.q fun k q => qLenM_ok S.R hX q F rt
      · cases hd
    · -- cap
      rename_i x tt htt
      obtain ⟨a, haa, hax, hmap⟩ := args1 ha
      have hX := S.x (hargs a (by rw [haa]; simp)) hax
      rw [tys_eq htt, hmap]
      obtain ⟨i, hi, hd⟩ := bind_some hd
      split at hd
      · rename_i e hk
        obtain rfl := pure_some hd
        obtain ⟨inf, F⟩ := S.tt.sl hi hk
        exact SR.q fun k q => qCap_ok hX q F rt
      · cases hd
    · -- min
      rename_i x xs htt
      obtain rfl := pure_some hd
      have := xsOf_list ha
      match hcl : c.args.toList, this with
      | a :: l, _ =>
        rw [hcl] at ha
        obtain ⟨y, r, e, h1, h2⟩ := xsOf_cons ha
        cases e
        have harr : c.args.map ev = (ev a :: l.map ev).toArray := by
          apply Array.ext'; simp [hcl]
        rw [harr]
        refine SR.q fun k q => ?_
        have := qMm_ok (w := w) (S.x (hargs a (by rw [hcl]; simp)) h1) (S.xs (fun x hm => hargs x (by rw [hcl]; simp [hm])) h2) q c.argTypes rt
        simpa using this
    · -- max
      rename_i x xs htt
      obtain rfl := pure_some hd
      have := xsOf_list ha
      match hcl : c.args.toList, this with
      | a :: l, _ =>
        rw [hcl] at ha
        obtain ⟨y, r, e, h1, h2⟩ := xsOf_cons ha
        cases e
        have harr : c.args.map ev = (ev a :: l.map ev).toArray := by
          apply Array.ext'; simp [hcl]
        rw [harr]
        refine SR.q fun k q => ?_
        have := qMm_ok (w := w) (S.x (hargs a (by rw [hcl]; simp)) h1) (S.xs (fun x hm => hargs x (by rw [hcl]; simp [hm])) h2) q c.argTypes rt
        simpa using this
    · -- append
      rename_i s x st xt htt
      obtain ⟨a, b, haa, hax, hbx, hmap⟩ := args2 ha
      have hX := S.x (hargs a (by rw [haa]; simp)) hax
      have hY := S.x (hargs b (by rw [haa]; simp)) hbx
      rw [tys_eq htt, hmap]
      obtain ⟨i, hi, hd⟩ := bind_some hd
      split at hd
      · rename_i e hk
        obtain ⟨inf, F⟩ := S.tt.sl hi hk
        obtain ⟨j, hj, hd⟩ := bind_some hd
        obtain ⟨z, hz, hd⟩ := bind_some hd
        obtain ⟨inf', d', G⟩ := S.tt.facts hj
        split at hd
        · rename_i hzs
          have hzs : z.length = j.size := Nat.eq_of_beq_eq_true hzs
          obtain ⟨jx, hjx, hd⟩ := bind_some hd
          split at hd
          · rename_i ik hkx
            obtain rfl := pure_some hd
            obtain ⟨inf'', E⟩ := S.tt.int hjx hkx
            exact fun k q => lAppZ_ok S.R hX hY q F G E rfl rfl rfl hz rfl rt
          · rename_i hkx
            obtain rfl := pure_some hd
            obtain ⟨inf'', dx, E⟩ := S.tt.facts hjx
            exact fun k q => lApp_ok S.R hX hY q F G E (fun ik e => hkx ik (by rw [E.k, e]; rfl)) rfl rfl hz hzs rt
        · cases hd
      · cases hd
    · -- copy
      rename_i dd s tt tt' htt
      obtain ⟨a, b, haa, hax, hbx, hmap⟩ := args2 ha
      have hX := S.x (hargs a (by rw [haa]; simp)) hax
      have hY := S.x (hargs b (by rw [haa]; simp)) hbx
      rw [tys_eq htt, hmap]
      obtain ⟨i, hi, hd⟩ := bind_some hd
      split at hd
      · rename_i e hk
        obtain ⟨inf, F⟩ := S.tt.sl hi hk
        obtain ⟨j, hj, hd⟩ := bind_some hd
        obtain rfl := pure_some hd
        obtain ⟨inf', d', G⟩ := S.tt.facts hj
        exact fun k q => lCopy_ok S.R hX hY q F G rfl _ rt
      · cases hd
    · -- clear
      rename_i x tt htt
      obtain ⟨a, haa, hax, hmap⟩ := args1 ha
      have hX := S.x (hargs a (by rw [haa]; simp)) hax
      rw [tys_eq htt, hmap]
      obtain ⟨i, hi, hd⟩ := bind_some hd
      split at hd
      · rename_i e hk
        obtain ⟨inf, F⟩ := S.tt.sl hi hk
        obtain ⟨j, hj, hd⟩ := bind_some hd
        obtain ⟨z, hz, hd⟩ := bind_some hd
        obtain rfl := pure_some hd
        obtain ⟨inf', d', G⟩ := S.tt.facts hj
        exact fun k q => lClearS_ok S.R hX q F G hz rt
      · rename_i kt e hk
        obtain ⟨inf, F⟩ := S.tt.map hi hk
        obtain rfl := pure_some hd
        exact fun k q => lClearM_ok S.R hX q F rt
      · cases hd
    · -- delete
      rename_i m kk tt tt' htt
      obtain ⟨a, b, haa, hax, hbx, hmap⟩ := args2 ha
      have hX := S.x (hargs a (by rw [haa]; simp)) hax
      have hY := S.x (hargs b (by rw [haa]; simp)) hbx
      rw [tys_eq htt, hmap]
      obtain ⟨i, hi, hd⟩ := bind_some hd
      split at hd
      · rename_i kt e hk
        obtain ⟨inf, F⟩ := S.tt.map hi hk
        obtain ⟨te, hte, hd⟩ := bind_some hd
        obtain rfl := pure_some hd
        obtain ⟨h1, h2⟩ := teOf_key S.tt hte
        exact fun k q => lDel_ok S.R hX hY q F h1 h2 _ rt
      · cases hd
    · -- recover
      obtain rfl := pure_some hd
      exact fun k q => lRecover_ok q
    · -- unsafe.SliceData
      rename_i x htt
      obtain ⟨a, haa, hax, hmap⟩ := args1 ha
      have hX := S.x (hargs a (by rw [haa]; simp)) hax
      rw [hmap]
      obtain rfl := pure_some hd
      exact SR.q fun k q => qUsd_ok hX q _ rt
    · -- unsafe.String
      rename_i p n tt tt' htt
      obtain ⟨a, b, haa, hax, hbx, hmap⟩ := args2 ha
      have hX := S.x (hargs a (by rw [haa]; simp)) hax
      have hY := S.x (hargs b (by rw [haa]; simp)) hbx
      rw [tys_eq htt, hmap]
      obtain ⟨i, hi, hd⟩ := bind_some hd
      split at hd
      · rename_i e hk
        obtain ⟨inf, F⟩ := S.tt.ptr hi hk
        obtain ⟨j, hj, hd⟩ := bind_some hd
        obtain ⟨inf', d', G⟩ := S.tt.facts hj
        split at hd
        · rename_i h8
          obtain rfl := pure_some hd
          exact fun k q => lUstr_ok S.R hX hY q F G h8 _ rt
        · cases hd
      · cases hd
    · cases hd
end PH.R
/-
  The reckoner: operations as they are written, and what the model does: all of them.
-/
namespace PH.R
open Go Go.RowKit
variable {X : Cx} {μ : Mu} {h : H} {ls : T (Option Lp)} {w0 w : World} {t : TV}
variable {ty : Nat → Option D.Ty} {ts : List (Nat × TE)} {ev : Operand → Value}

theorem binop_ok (S : Sit X ty ts μ h ls w0 w ev) {op : BinOp} {tt yt : Nat} {x y : Operand} {d : D.Op} (hx : XOk X μ t ev x) (hy : XOk X μ t ev y) {rt pos aft g dst} (hd : D.opOf ty X.ms ts X.P.globals.size ⟨dst, .binOp op tt x y yt, rt, pos, aft, g⟩ = some d) : SR X μ h ls w0 w t (sOp d) (do pure (.value (← (do eqGuard op tt x y (ev x) (ev y); Go.binOp op tt (ev x) (ev y))))) := by
  simp only [D.opOf] at hd
  obtain ⟨i, hi, hd⟩ := bind_some hd
  split at hd
  all_goals first | (cases hd; done) | skip
  all_goals obtain ⟨x', hx', hd⟩ := bind_some hd
  all_goals obtain ⟨y', hy', hd⟩ := bind_some hd
  all_goals obtain rfl := pure_some hd
  · exact shift_ok (S.x hx hx') (S.x hy hy')
  · exact shift_ok (S.x hx hx') (S.x hy hy')
  · exact arith_ok (S.x hx hx') (S.x hy hy')
  · exact strop_ok (S.x hx hx') (S.x hy hy')
  · exact SR.q fun k q => eqv_ok S (neg := false) (S.x hx hx') (S.x hy hy') q
  · exact SR.q fun k q => eqv_ok S (neg := true) (S.x hx hx') (S.x hy hy') q

theorem opOf_ok (S : Sit X ty ts μ h ls w0 w ev) {o : Oper} {d : D.Op} (hx : Xs X μ t ev o.op.operands.toList) (hd : D.opOf ty X.ms ts X.P.globals.size o = some d) (hnd : ∀ c, o.op ≠ .defer c) : SR X μ h ls w0 w t (sOp d) (execOp ev o) := by
  obtain ⟨dst, op, rt, pos, aft, g⟩ := o
  have one : ∀ x, x ∈ op.operands.toList → XOk X μ t ev x := hx
  cases op with
  | move x =>
    obtain ⟨x', hx', hd⟩ := bind_some hd
    obtain rfl := pure_some hd
    exact fun k q => ⟨_, _, q, S.x (one x (by simp [Op.operands])) hx', rfl⟩
  | assign x =>
    obtain ⟨x', hx', hd⟩ := bind_some hd
    obtain rfl := pure_some hd
    exact fun k q => lAs_ok S.R (S.x (one x (by simp [Op.operands])) hx') q
  | pick c a b =>
    obtain ⟨c', hc', hd⟩ := bind_some hd
    obtain ⟨a', ha', hd⟩ := bind_some hd
    obtain ⟨b', hb', hd⟩ := bind_some hd
    obtain rfl := pure_some hd
    exact fun k q => qPick_ok (S.x (one c (by simp [Op.operands])) hc') (S.x (one a (by simp [Op.operands])) ha') (S.x (one b (by simp [Op.operands])) hb') q
  | alloc e =>
    obtain ⟨i, hi, hd⟩ := bind_some hd
    obtain ⟨z, hz, hd⟩ := bind_some hd
    obtain rfl := pure_some hd
    obtain ⟨inf, d', F⟩ := S.tt.facts hi
    exact SR.a fun k q => aNew_ok q F hz
  | box e x =>
    obtain ⟨i, hi, hd⟩ := bind_some hd
    obtain ⟨x', hx', hd⟩ := bind_some hd
    obtain rfl := pure_some hd
    exact SR.a fun k q => aBox_ok (S.x (one x (by simp [Op.operands])) hx') q
  | build tt ps => exact build_ok S hx hd
  | buildSlice tt len ps => exact bslice_ok S hx hd
  | insert => cases hd
  | load tt a =>
    obtain ⟨i, hi, hd⟩ := bind_some hd
    obtain ⟨x', hx', hd⟩ := bind_some hd
    obtain rfl := pure_some hd
    obtain ⟨inf, d', F⟩ := S.tt.facts hi
    have hX := S.x (one a (by simp [Op.operands])) hx'
    cases hn : i.agg with
    | none => exact SR.q fun k q => qLoad1_ok S.R hX F hn q
    | some n => exact SR.q fun k q => qLoadN_ok S.R hX F hn q
  | store tt a x =>
    obtain ⟨i, hi, hd⟩ := bind_some hd
    obtain ⟨a', ha', hd⟩ := bind_some hd
    obtain ⟨x', hx', hd⟩ := bind_some hd
    obtain rfl := pure_some hd
    obtain ⟨inf, d', F⟩ := S.tt.facts hi
    exact fun k q => lStore_ok S.R (S.x (one a (by simp [Op.operands])) ha') (S.x (one x (by simp [Op.operands])) hx') q F rfl
  | ready => cases hd
  | waits => cases hd
  | nilCheck x =>
    obtain ⟨x', hx', hd⟩ := bind_some hd
    obtain rfl := pure_some hd
    exact fun k q => qNilck_ok S.mm (S.x (one x (by simp [Op.operands])) hx') q rfl rfl
  | binOp op tt x y yt => exact binop_ok S (one x (by simp [Op.operands])) (one y (by simp [Op.operands])) hd
  | unOp op tt x =>
    obtain ⟨x', hx', hd⟩ := bind_some hd
    obtain rfl := pure_some hd
    have hX := S.x (one x (by simp [Op.operands])) hx'
    cases op
    all_goals first | exact SR.q fun k q => qNot_ok hX q | exact SR.q fun k q => qNeg_ok hX q | exact SR.bad
  | convert src dst' x => exact convert_ok S (one x (by simp [Op.operands])) hd
  | sliceToArrayPointer tt x =>
    obtain ⟨i, hi, hd⟩ := bind_some hd
    split at hd
    · rename_i n e hk
      obtain ⟨x', hx', hd⟩ := bind_some hd
      obtain rfl := pure_some hd
      obtain ⟨inf, F⟩ := S.tt.arr hi hk
      exact SR.q fun k q => qArr_ok (S.x (one x (by simp [Op.operands])) hx') q F
    · cases hd
  | makeInterface tt x =>
    obtain ⟨i, hi, hd⟩ := bind_some hd
    split at hd
    · cases hd
    · rename_i hk
      obtain ⟨x', hx', hd⟩ := bind_some hd
      obtain rfl := pure_some hd
      obtain ⟨inf, d', F, hn⟩ := S.tt.nifc hi hk
      exact SR.q fun k q => qMkI_ok (S.x (one x (by simp [Op.operands])) hx') q F hn
  | makeFunc f first cap =>
    have hf : Xs X μ t ev first.toList := fun x hm => one x (by simp only [Op.operands, Array.toList_append, List.mem_append]; exact .inl hm)
    have hc : Xs X μ t ev cap.toList := fun x hm => one x (by simp only [Op.operands, Array.toList_append, List.mem_append]; exact .inr hm)
    have e1 : first.map ev = (first.toList.map ev).toArray := by apply Array.ext'; simp
    have e2 : cap.map ev = (cap.toList.map ev).toArray := by apply Array.ext'; simp
    cases f with
    | func f =>
      obtain ⟨a', ha', hd⟩ := bind_some hd
      obtain ⟨c', hc', hd⟩ := bind_some hd
      obtain rfl := pure_some hd
      refine SR.q fun k q => ?_
      rw [e1, e2]
      exact qMkF_ok (S.xs hf ha') (S.xs hc hc') q
    | method n =>
      obtain ⟨cl⟩ := cap
      cases cl with
      | nil =>
        obtain ⟨a', ha', hd⟩ := bind_some hd
        obtain rfl := pure_some hd
        refine SR.q fun k q => ?_
        rw [e1, show (Array.map ev ⟨[]⟩ : Array Value) = #[] from by simp]
        exact qMkFM_ok rfl (S.xs hf ha') q
      | cons _ _ => cases hd
    | _ => cases hd
  | makeMap tt r =>
    cases r with
    | none =>
      cases hd
      exact SR.a fun k q => aMap_ok q tt
    | some r => cases hd
  | makeChan => cases hd
  | makeSlice tt l c =>
    obtain ⟨i, hi, hd⟩ := bind_some hd
    split at hd
    · rename_i e hk
      obtain ⟨inf, F⟩ := S.tt.sl hi hk
      obtain ⟨j, hj, hd⟩ := bind_some hd
      obtain ⟨inf', d', G⟩ := S.tt.facts hj
      split at hd
      · rename_i h8
        obtain ⟨l', hl', hd⟩ := bind_some hd
        obtain ⟨c', hc', hd⟩ := bind_some hd
        obtain rfl := pure_some hd
        exact SR.a fun k q => aMkBy_ok (S.x (one l (by simp [Op.operands])) hl') (S.x (one c (by simp [Op.operands])) hc') q F G h8
      · obtain ⟨z, hz, hd⟩ := bind_some hd
        obtain ⟨l', hl', hd⟩ := bind_some hd
        obtain ⟨c', hc', hd⟩ := bind_some hd
        obtain rfl := pure_some hd
        exact SR.a fun k q => aMkSl_ok (S.x (one l (by simp [Op.operands])) hl') (S.x (one c (by simp [Op.operands])) hc') q F G hz rfl rfl
    · cases hd
  | slice tt x lo hi mx =>
    have hX : XOk X μ t ev x := one x (by simp [Op.operands])
    have hL : ∀ y, lo = some y → XOk X μ t ev y := fun y e => one y (by simp [Op.operands, e])
    have hH : ∀ y, hi = some y → XOk X μ t ev y := fun y e => one y (by simp [Op.operands, e])
    have hM : ∀ y, mx = some y → XOk X μ t ev y := fun y e => one y (by simp [Op.operands, e])
    have hmh : ¬ (mx.isSome && hi.isNone) = true → (mx.map ev ≠ none → hi.map ev ≠ none) := fun c c1 => by
      cases mx with
      | none => exact absurd rfl c1
      | some m => cases hi with
        | none => exact absurd rfl c
        | some _ => simp
    obtain ⟨i, hi', hd⟩ := bind_some hd
    split at hd
    · rename_i hk
      obtain ⟨inf, F⟩ := S.tt.str hi' hk
      split at hd
      · rename_i hmx
        have hmx : mx = none := by simpa using hmx
        obtain ⟨x', hx', hd⟩ := bind_some hd
        obtain ⟨l', hl', hd⟩ := bind_some hd
        obtain ⟨h', hh', hd⟩ := bind_some hd
        obtain rfl := pure_some hd
        refine SR.q fun k q => ?_
        rw [hmx]
        exact qSlStr_ok (S.x hX hx') (S.xo hL hl') (S.xo hH hh') q F
      · cases hd
    · rename_i e hk
      obtain ⟨inf, F⟩ := S.tt.sl hi' hk
      split at hd
      · cases hd
      · rename_i hc
        obtain ⟨j, hj, hd⟩ := bind_some hd
        obtain ⟨inf', d', G⟩ := S.tt.facts hj
        obtain ⟨x', hx', hd⟩ := bind_some hd
        obtain ⟨l', hl', hd⟩ := bind_some hd
        obtain ⟨h', hh', hd⟩ := bind_some hd
        obtain ⟨m', hm', hd⟩ := bind_some hd
        obtain rfl := pure_some hd
        exact SR.q fun k q => qSlSl_ok S.R (S.x hX hx') (S.xo hL hl') (S.xo hH hh') (S.xo hM hm') (hmh hc) q F G rfl
    · rename_i n e hk
      obtain ⟨inf, F⟩ := S.tt.arr hi' hk
      split at hd
      · cases hd
      · rename_i hc
        obtain ⟨j, hj, hd⟩ := bind_some hd
        obtain ⟨inf', d', G⟩ := S.tt.facts hj
        obtain ⟨x', hx', hd⟩ := bind_some hd
        obtain ⟨l', hl', hd⟩ := bind_some hd
        obtain ⟨h', hh', hd⟩ := bind_some hd
        obtain ⟨m', hm', hd⟩ := bind_some hd
        obtain rfl := pure_some hd
        exact SR.q fun k q => qSlArr_ok (S.x hX hx') (S.xo hL hl') (S.xo hH hh') (S.xo hM hm') (hmh hc) q F G rfl
    · cases hd
  | fieldAddr s x n =>
    obtain ⟨i, hi, hd⟩ := bind_some hd
    split at hd
    · rename_i fs hk
      obtain ⟨f, hf, hd⟩ := bind_some hd
      obtain ⟨j, hj, hd⟩ := bind_some hd
      split at hd
      · cases hd
      · rename_i hs
        obtain ⟨x', hx', hd⟩ := bind_some hd
        obtain rfl := pure_some hd
        obtain ⟨inf, gs, g, F, hg, rfl⟩ := field_of S.tt hi hk hf
        obtain ⟨inf', d', G⟩ := S.tt.facts hj
        exact SR.q fun k q => qFaddr_ok (S.x (one x (by simp [Op.operands])) hx') q F hg rfl G hs
    · cases hd
  | field s x n =>
    obtain ⟨i, hi, hd⟩ := bind_some hd
    split at hd
    · rename_i fs hk
      obtain ⟨f, hf, hd⟩ := bind_some hd
      obtain ⟨j, hj, hd⟩ := bind_some hd
      obtain ⟨x', hx', hd⟩ := bind_some hd
      obtain rfl := pure_some hd
      obtain ⟨inf, gs, g, F, hg, rfl⟩ := field_of S.tt hi hk hf
      obtain ⟨inf', d', G⟩ := S.tt.facts hj
      have hX := S.x (one x (by simp [Op.operands])) hx'
      cases hn : j.agg with
      | none => exact SR.q fun k q => qFld1_ok hX q F hg rfl G hn
      | some m => exact SR.q fun k q => qFldN_ok hX q F hg rfl G hn
    · cases hd
  | indexAddr tt x ix =>
    obtain ⟨i, hi, hd⟩ := bind_some hd
    split at hd
    · rename_i n e hk
      obtain ⟨inf, F⟩ := S.tt.arr hi hk
      obtain ⟨j, hj, hd⟩ := bind_some hd
      obtain ⟨inf', d', G⟩ := S.tt.facts hj
      obtain ⟨x', hx', hd⟩ := bind_some hd
      obtain ⟨y', hy', hd⟩ := bind_some hd
      obtain rfl := pure_some hd
      exact SR.q fun k q => qIxArr_ok (S.x (one x (by simp [Op.operands])) hx') (S.x (one ix (by simp [Op.operands])) hy') q F G rfl
    · rename_i e hk
      obtain ⟨inf, F⟩ := S.tt.sl hi hk
      obtain ⟨j, hj, hd⟩ := bind_some hd
      obtain ⟨inf', d', G⟩ := S.tt.facts hj
      obtain ⟨x', hx', hd⟩ := bind_some hd
      obtain ⟨y', hy', hd⟩ := bind_some hd
      obtain rfl := pure_some hd
      exact SR.q fun k q => qIxSl_ok (S.x (one x (by simp [Op.operands])) hx') (S.x (one ix (by simp [Op.operands])) hy') q F G rfl
    · cases hd
  | index tt x ix =>
    obtain ⟨i, hi, hd⟩ := bind_some hd
    split at hd
    · rename_i hk
      obtain ⟨inf, F⟩ := S.tt.str hi hk
      obtain ⟨x', hx', hd⟩ := bind_some hd
      obtain ⟨y', hy', hd⟩ := bind_some hd
      obtain rfl := pure_some hd
      exact SR.q fun k q => qIxStr_ok (S.x (one x (by simp [Op.operands])) hx') (S.x (one ix (by simp [Op.operands])) hy') q F
    · cases hd
  | lookup tt m kk c =>
    obtain ⟨i, hi, hd⟩ := bind_some hd
    split at hd
    · rename_i kt e hk
      obtain ⟨inf, F⟩ := S.tt.map hi hk
      obtain ⟨te, hte, hd⟩ := bind_some hd
      obtain ⟨j, hj, hd⟩ := bind_some hd
      obtain ⟨z, hz, hd⟩ := bind_some hd
      obtain ⟨inf', d', G⟩ := S.tt.facts hj
      obtain ⟨x', hx', hd⟩ := bind_some hd
      obtain ⟨y', hy', hd⟩ := bind_some hd
      obtain rfl := pure_some hd
      obtain ⟨h1, h2⟩ := teOf_key S.tt hte
      exact SR.q fun k q => qLookup_ok S.R (S.x (one m (by simp [Op.operands])) hx') (S.x (one kk (by simp [Op.operands])) hy') q F h1 h2 G hz
    · cases hd
  | mapUpdate tt m kk x =>
    obtain ⟨i, hi, hd⟩ := bind_some hd
    split at hd
    · rename_i kt e hk
      obtain ⟨inf, F⟩ := S.tt.map hi hk
      obtain ⟨te, hte, hd⟩ := bind_some hd
      obtain ⟨x', hx', hd⟩ := bind_some hd
      obtain ⟨y', hy', hd⟩ := bind_some hd
      obtain ⟨z', hz', hd⟩ := bind_some hd
      obtain rfl := pure_some hd
      obtain ⟨h1, h2⟩ := teOf_key S.tt hte
      exact fun k q => lMupd_ok S.R (S.x (one m (by simp [Op.operands])) hx') (S.x (one kk (by simp [Op.operands])) hy') (S.x (one x (by simp [Op.operands])) hz') q F h1 h2
    · cases hd
  | mapEntry tt m kk =>
    obtain ⟨i, hi, hd⟩ := bind_some hd
    split at hd
    · rename_i kt e hk
      obtain ⟨inf, F⟩ := S.tt.map hi hk
      obtain ⟨te, hte, hd⟩ := bind_some hd
      obtain ⟨j, hj, hd⟩ := bind_some hd
      obtain ⟨z, hz, hd⟩ := bind_some hd
      obtain ⟨inf', d', G⟩ := S.tt.facts hj
      obtain ⟨x', hx', hd⟩ := bind_some hd
      obtain ⟨y', hy', hd⟩ := bind_some hd
      obtain rfl := pure_some hd
      obtain ⟨h1, h2⟩ := teOf_key S.tt hte
      exact fun k q => lMent_ok S.R (S.x (one m (by simp [Op.operands])) hx') (S.x (one kk (by simp [Op.operands])) hy') q F h1 h2 G hz
    · cases hd
  | entryStore tt m s x =>
    obtain ⟨x', hx', hd⟩ := bind_some hd
    obtain ⟨y', hy', hd⟩ := bind_some hd
    obtain ⟨z', hz', hd⟩ := bind_some hd
    obtain rfl := pure_some hd
    exact fun k q => lEstore_ok S.R (S.x (one m (by simp [Op.operands])) hx') (S.x (one s (by simp [Op.operands])) hy') (S.x (one x (by simp [Op.operands])) hz') q tt
  | range tt x =>
    obtain ⟨i, hi, hd⟩ := bind_some hd
    split at hd
    · rename_i hk
      obtain ⟨inf, F⟩ := S.tt.str hi hk
      obtain ⟨x', hx', hd⟩ := bind_some hd
      obtain rfl := pure_some hd
      exact fun k q => lRngS_ok S.R (S.x (one x (by simp [Op.operands])) hx') q F
    · rename_i kt e hk
      obtain ⟨inf, F⟩ := S.tt.map hi hk
      obtain ⟨x', hx', hd⟩ := bind_some hd
      obtain rfl := pure_some hd
      exact fun k q => lRngM_ok S.R (S.x (one x (by simp [Op.operands])) hx') q F
    · cases hd
  | next it s =>
    obtain ⟨x', hx', hd⟩ := bind_some hd
    obtain rfl := pure_some hd
    exact fun k q => lNext_ok S.R (S.x (one it (by simp [Op.operands])) hx') q rt
  | entry it =>
    obtain ⟨x', hx', hd⟩ := bind_some hd
    obtain rfl := pure_some hd
    exact SR.q fun k q => qEntry_ok S.R (S.x (one it (by simp [Op.operands])) hx') q
  | typeAssert x xt tt c =>
    obtain ⟨i, hi, hd⟩ := bind_some hd
    split at hd
    · cases hd
    · rename_i hk
      obtain ⟨j, hj, hd⟩ := bind_some hd
      obtain ⟨z, hz, hd⟩ := bind_some hd
      obtain ⟨x', hx', hd⟩ := bind_some hd
      obtain rfl := pure_some hd
      have e : i = j := Option.some.inj (hi.symm.trans hj)
      subst e
      obtain ⟨inf, d', F, hn⟩ := S.tt.nifc hi hk
      exact SR.q fun k q => qTass_ok (S.x (one x (by simp [Op.operands])) hx') q xt F hn hz
  | extract x i =>
    obtain ⟨x', hx', hd⟩ := bind_some hd
    obtain rfl := pure_some hd
    exact SR.q fun k q => qExtr_ok (S.x (one x (by simp [Op.operands])) hx') q
  | call c => exact call_ok S hx hd rt
  | defer c => exact absurd rfl (hnd c)
  | go => cases hd
  | panic => cases hd
  | send => cases hd
  | recv => cases hd
  | select => cases hd
theorem opOf_dfr (S : Sit X ty ts μ h ls w0 w ev) {o : Oper} {d : D.Op} {c : Call} (ho : o.op = .defer c) (hx : Xs X μ t ev o.op.operands.toList) (hd : D.opOf ty X.ms ts X.P.globals.size o = some d) : ∃ f, sOp d = .l f ∧ ∀ k, f t h k = true → ∃ d D, k (.dfr d) = true ∧ DfRel X μ d D ∧ (resolve ev c o.type).run X.P w = .ok D w := by
  obtain ⟨dst, op, rt, pos, aft, g⟩ := o
  simp only at ho
  subst ho
  obtain ⟨args, ha, hd⟩ := bind_some hd
  have hargs : Xs X μ t ev c.args.toList := fun x hm => hx x (by
    simp only [Op.operands, Call.operands, Array.toList_append, List.mem_append]
    exact .inr hm)
  have hA := S.xs hargs ha
  split at hd
  · rename_i f hc
    obtain ⟨f', hf, hd⟩ := bind_some hd
    obtain rfl := pure_some hd
    have hff := S.x (hx f (by simp only [Op.operands, Call.operands]; rw [hc]; simp)) hf
    exact ⟨_, rfl, fun k q => lDfr_ok hc hff hA q rt⟩
  · cases hd
end PH.R
/-
  The reckoner: what a quiet operation comes to hangs on what it looks at alone.
-/
namespace PH.R
open Go Go.RowKit

def H.le (h h' : H) : Prop := ∀ b x, h.get b = some x → h'.get b = some x
theorem H.le_refl (h : H) : H.le h h := fun _ _ e => e
theorem H.le_trans {a b c : H} (x : H.le a b) (y : H.le b c) : H.le a c := fun p q e => y p q (x p q e)

/-- What goes on with a value goes on with any that goes on with it. -/
def NaR {α : Type} (g g' : (α → Bool) → Bool) : Prop := ∀ k, g k = true → ∃ v, k v = true ∧ ∀ k', k' v = true → g' k' = true
section
variable {α β : Type}
theorem NaR.k (v : α) : NaR (fun k => k v) fun k => k v := fun k q => ⟨v, q, fun k' q => q⟩
theorem NaR.ok {b b' : Bool} {g g' : (α → Bool) → Bool} (hb : b = true → b' = true) (h : NaR g g') : NaR (fun k => PH.R.ok b (g k)) fun k => PH.R.ok b' (g' k) := fun k q => by
  obtain ⟨q1, q2⟩ := ok_true.1 q
  obtain ⟨v, a, c⟩ := h k q2
  exact ⟨v, a, fun k' q => ok_true.2 ⟨hb q1, c k' q⟩⟩
theorem NaR.ok' {b : Bool} {g g' : (α → Bool) → Bool} (h : NaR g g') : NaR (fun k => PH.R.ok b (g k)) fun k => PH.R.ok b (g' k) := NaR.ok id h
theorem NaR.bc {b : Bool} {g g' f f' : (α → Bool) → Bool} (h : NaR g g') (i : NaR f f') : NaR (fun k => PH.R.bc b (g k) (f k)) fun k => PH.R.bc b (g' k) (f' k) := by
  cases b
  · exact i
  · exact h
theorem NaR.ff {g' : (α → Bool) → Bool} : NaR (fun _ => false) g' := fun k q => by cases q
theorem NaR.ob {x : Option β} {g g' : β → (α → Bool) → Bool} (h : ∀ a, NaR (g a) (g' a)) : NaR (fun k => PH.R.ob x fun a => g a k) fun k => PH.R.ob x fun a => g' a k := by
  cases x
  · exact NaR.ff
  · exact h _
theorem NaR.opt {x : Option β} {f f' : (α → Bool) → Bool} {g g' : β → (α → Bool) → Bool} (i : NaR f f') (h : ∀ a, NaR (g a) (g' a)) : NaR (fun k => Option.casesOn (motive := fun _ => Bool) x (f k) fun a => g a k) fun k => Option.casesOn (motive := fun _ => Bool) x (f' k) fun a => g' a k := by
  cases x
  · exact i
  · exact h _
theorem NaR.int {n : Int} {g g' f f' : Nat → (α → Bool) → Bool} (h : ∀ a, NaR (g a) (g' a)) (i : ∀ a, NaR (f a) (f' a)) : NaR (fun k => Int.casesOn (motive := fun _ => Bool) n (fun a => g a k) fun a => f a k) fun k => Int.casesOn (motive := fun _ => Bool) n (fun a => g' a k) fun a => f' a k := by
  cases n
  · exact h _
  · exact i _
theorem NaR.cap {c : Cap} {g g' : Nat → (α → Bool) → Bool} {f f' : Nat → Nat → (α → Bool) → Bool} (h : ∀ a, NaR (g a) (g' a)) (i : ∀ a b, NaR (f a b) (f' a b)) : NaR (fun k => Cap.casesOn (motive := fun _ => Bool) c (fun a => g a k) fun a b => f a b k) fun k => Cap.casesOn (motive := fun _ => Bool) c (fun a => g' a k) fun a b => f' a b k := by
  cases c
  · exact h _
  · exact i _ _
theorem NaR.row {r : Row} {g g' : List V → (α → Bool) → Bool} {f f' : Nat → Nat → (α → Bool) → Bool} (h : ∀ a, NaR (g a) (g' a)) (i : ∀ a b, NaR (f a b) (f' a b)) : NaR (fun k => Row.casesOn (motive := fun _ => Bool) r (fun a => g a k) fun a b => f a b k) fun k => Row.casesOn (motive := fun _ => Bool) r (fun a => g' a k) fun a b => f' a b k := by
  cases r
  · exact h _
  · exact i _ _
theorem NaR.forceN {n : Nat} {g g' : Nat → (α → Bool) → Bool} (h : ∀ n, NaR (g n) (g' n)) : NaR (fun k => PH.R.forceN n fun m => g m k) fun k => PH.R.forceN n fun m => g' m k := by
  simp only [forceN_eq]
  exact h n
theorem NaR.asP {v : V} {g g' : Pa → Nat → (α → Bool) → Bool} (h : ∀ b o, NaR (g b o) (g' b o)) : NaR (fun k => PH.R.asP v fun b o => g b o k) fun k => PH.R.asP v fun b o => g' b o k := by
  cases v <;> first | exact h _ _ | exact NaR.ff
theorem NaR.asI {v : V} {g g' : IntKind → Int → (α → Bool) → Bool} (h : ∀ b o, NaR (g b o) (g' b o)) : NaR (fun k => PH.R.asI v fun b o => g b o k) fun k => PH.R.asI v fun b o => g' b o k := by
  cases v <;> first | exact h _ _ | exact NaR.ff
theorem NaR.asN {v : V} {g g' : Nat → (α → Bool) → Bool} (h : ∀ b, NaR (g b) (g' b)) : NaR (fun k => PH.R.asN v fun b => g b k) fun k => PH.R.asN v fun b => g' b k := by
  cases v <;> first | exact NaR.ff | skip
  rename_i k n
  cases n
  · exact h _
  · exact NaR.ff
theorem NaR.asB {v : V} {g g' : Bool → (α → Bool) → Bool} (h : ∀ b, NaR (g b) (g' b)) : NaR (fun k => PH.R.asB v fun b => g b k) fun k => PH.R.asB v fun b => g' b k := by
  cases v <;> first | exact h _ | exact NaR.ff
theorem NaR.asS {v : V} {g g' : Nat → Nat → (α → Bool) → Bool} (h : ∀ b o, NaR (g b o) (g' b o)) : NaR (fun k => PH.R.asS v fun b o => g b o k) fun k => PH.R.asS v fun b o => g' b o k := by
  cases v <;> first | exact h _ _ | exact NaR.ff
theorem NaR.asSl {v : V} {g g' : Pa → Nat → Nat → Cap → (α → Bool) → Bool} (h : ∀ b o l c, NaR (g b o l c) (g' b o l c)) : NaR (fun k => PH.R.asSl v fun b o l c => g b o l c k) fun k => PH.R.asSl v fun b o l c => g' b o l c k := by
  cases v <;> first | exact h _ _ _ _ | exact NaR.ff
theorem NaR.asAg {v : V} {g g' : List V → (α → Bool) → Bool} (h : ∀ b, NaR (g b) (g' b)) : NaR (fun k => PH.R.asAg v fun b => g b k) fun k => PH.R.asAg v fun b => g' b k := by
  cases v <;> first | exact h _ | exact NaR.ff
theorem NaR.asTu {v : V} {g g' : List V → (α → Bool) → Bool} (h : ∀ b, NaR (g b) (g' b)) : NaR (fun k => PH.R.asTu v fun b => g b k) fun k => PH.R.asTu v fun b => g' b k := by
  cases v <;> first | exact h _ | exact NaR.ff
theorem NaR.asSlN {v : V} {g g' : Pa → Nat → Nat → Cap → (α → Bool) → Bool} {n n' : (α → Bool) → Bool} (h : ∀ b o l c, NaR (g b o l c) (g' b o l c)) (i : NaR n n') : NaR (fun k => PH.R.asSlN v (fun b o l c => g b o l c k) (n k)) fun k => PH.R.asSlN v (fun b o l c => g' b o l c k) (n' k) := by
  cases v <;> first | exact h _ _ _ _ | exact i | exact NaR.ff
theorem NaR.asMp {v : V} {g g' : Pa → (α → Bool) → Bool} {n n' : (α → Bool) → Bool} (h : ∀ b, NaR (g b) (g' b)) (i : NaR n n') : NaR (fun k => PH.R.asMp v (fun b => g b k) (n k)) fun k => PH.R.asMp v (fun b => g' b k) (n' k) := by
  cases v <;> first | exact h _ | exact i | exact NaR.ff
theorem NaR.asIc {v : V} {g g' : Nat → V → (α → Bool) → Bool} {n n' : (α → Bool) → Bool} (h : ∀ b o, NaR (g b o) (g' b o)) (i : NaR n n') : NaR (fun k => PH.R.asIc v (fun b o => g b o k) (n k)) fun k => PH.R.asIc v (fun b o => g' b o k) (n' k) := by
  cases v <;> first | exact h _ _ | exact i | exact NaR.ff
theorem NaR.asPn {v : V} {g g' : Pa → Nat → (α → Bool) → Bool} {n n' : (α → Bool) → Bool} (h : ∀ b o, NaR (g b o) (g' b o)) (i : NaR n n') : NaR (fun k => PH.R.asPn v (fun b o => g b o k) (n k)) fun k => PH.R.asPn v (fun b o => g' b o k) (n' k) := by
  cases v <;> first | exact h _ _ | exact i | exact NaR.ff
theorem NaR.asRow {h h' : H} (hl : H.le h h') {b : Pa} {g g' : Row → Nat → Nat → Nat → (α → Bool) → Bool} (i : ∀ r f s e, NaR (g r f s e) (g' r f s e)) : NaR (fun k => PH.R.asRow (h.get b) fun r f s e => g r f s e k) fun k => PH.R.asRow (h'.get b) fun r f s e => g' r f s e k := fun k q => by
  obtain ⟨r, f, s, e, hb, q⟩ := asRow_true q
  obtain ⟨v, a, c⟩ := i r f s e k q
  exact ⟨v, a, fun k' q => by rw [hl _ _ hb]; exact c k' q⟩
theorem NaR.asMap {h h' : H} (hl : H.le h h') {b : Pa} {g g' : List (V × V × Nat) → Nat → (α → Bool) → Bool} (i : ∀ r f, NaR (g r f) (g' r f)) : NaR (fun k => PH.R.asMap (h.get b) fun r f => g r f k) fun k => PH.R.asMap (h'.get b) fun r f => g' r f k := fun k q => by
  obtain ⟨r, f, hb, q⟩ := asMap_true q
  obtain ⟨v, a, c⟩ := i r f k q
  exact ⟨v, a, fun k' q => by rw [hl _ _ hb]; exact c k' q⟩
theorem NaR.nth (l : List α) : ∀ (i : Nat), NaR (PH.R.nth l i) (PH.R.nth l i) := by
  induction l with
  | nil => exact fun _ => NaR.ff
  | cons x l ih =>
    intro i
    cases i with
    | zero => exact NaR.k x
    | succ i => exact ih i
theorem NaR.keyOk {te : TE} {x : V} {g g' : (α → Bool) → Bool} (h : NaR g g') : NaR (fun k => PH.R.keyOk te x (g k)) fun k => PH.R.keyOk te x (g' k) := by
  unfold PH.R.keyOk
  exact NaR.bc (NaR.ob fun b => NaR.ok' h) h
end
/-- Of one value. -/
abbrev NaV (g : (V → Bool) → Bool) : Prop := NaR g g
theorem NaR.get (r : Row) (i : Nat) : NaV (r.get i) := by
  unfold Row.get
  exact NaR.row (fun l => NaR.nth l i) fun len n => NaR.ok' (NaR.forceN fun m => NaR.k _)
theorem NaR.load (r : Row) (o n : Nat) : NaR (r.load o n) (r.load o n) := by
  unfold Row.load
  exact NaR.row (fun l => NaR.ob fun q => NaR.k q) fun len m => NaR.ok' (NaR.k _)
theorem NaR.part (r : Row) (o n : Nat) : NaR (r.part o n) (r.part o n) := by
  unfold Row.part
  exact NaR.row (fun l => NaR.ob fun q => NaR.k _) fun len m => NaR.ok' (NaR.forceN fun a => NaR.forceN fun b => NaR.k _)
theorem NaR.load1 {h h' : H} (hl : H.le h h') (b : Pa) (o : Nat) : NaR (PH.R.load1 h b o) (PH.R.load1 h' b o) := by
  unfold PH.R.load1
  exact NaR.asRow hl fun r _ _ _ => NaR.get r o
theorem NaR.bind {α β : Type} {g g' : (α → Bool) → Bool} {f f' : α → (β → Bool) → Bool} (h : NaR g g') (i : ∀ a, NaR (f a) (f' a)) : NaR (fun k => g fun a => f a k) fun k => g' fun a => f' a k := fun k q => by
  obtain ⟨a, q1, q2⟩ := h _ q
  obtain ⟨v, q3, q4⟩ := i a k q1
  exact ⟨v, q3, fun k' q => q2 _ (q4 k' q)⟩
theorem NaR.loadN {h h' : H} (hl : H.le h h') (b : Pa) (o n : Nat) : NaR (PH.R.loadN h b o n) (PH.R.loadN h' b o n) := by
  unfold PH.R.loadN
  exact NaR.asRow hl fun r _ _ _ => NaR.load r o n
theorem NaR.ag {g g' : (List V → Bool) → Bool} (h : NaR g g') : NaR (fun k : V → Bool => g (agK k)) fun k => g' (agK k) := NaR.bind h fun l => NaR.k (V.ag l)
theorem NaR.fI (ik : IntKind) (n : Int) : NaV (fI ik n) := by
  unfold PH.R.fI
  exact NaR.int (fun a => NaR.forceN fun m => NaR.k _) fun a => NaR.forceN fun m => NaR.k _
theorem NaR.wI (ik : IntKind) (n : Int) : NaV (wI ik n) := NaR.fI ik _
theorem NaR.wN (ik : IntKind) (n : Nat) : NaV (wN ik n) := by
  unfold PH.R.wN
  exact NaR.bc (NaR.forceN fun m => NaR.k _) (NaR.wI ik _)
theorem NaR.mkN (n : Nat) : NaV (mkN n) := by
  unfold PH.R.mkN
  exact NaR.forceN fun m => NaR.k _
theorem NaR.iB (b : Bool) : NaV (iB b) := by
  cases b
  · exact NaR.k _
  · exact NaR.k _
theorem NaR.mkS (l n : Nat) : NaV (mkS l n) := by
  unfold PH.R.mkS
  exact NaR.forceN fun _ => NaR.forceN fun _ => NaR.k _
theorem NaR.ii {x y : Int} {f : Nat → Nat → (V → Bool) → Bool} {g : (V → Bool) → Bool} (h : ∀ a b, NaV (f a b)) (i : NaV g) : NaV fun k => PH.R.ii x y (fun a b => f a b k) (g k) := by
  cases x <;> cases y <;> first | exact h _ _ | exact i
def IoNa (f : Io) : Prop := ∀ k x y, NaV (f k x y)
theorem iAdd_na : IoNa iAdd := fun k x y => NaR.ii (fun a b => NaR.wN k _) (NaR.wI k _)
theorem iSub_na : IoNa iSub := fun k x y => NaR.ii (fun a b => NaR.bc (NaR.wN k _) (NaR.wI k _)) (NaR.wI k _)
theorem iMul_na : IoNa iMul := fun k x y => NaR.ii (fun a b => NaR.wN k _) (NaR.wI k _)
theorem iQuo_na : IoNa iQuo := fun k x y => NaR.ii (fun a b => NaR.bc NaR.ff (NaR.wN k _)) (NaR.bc NaR.ff (NaR.wI k _))
theorem iRem_na : IoNa iRem := fun k x y => NaR.ii (fun a b => NaR.bc NaR.ff (NaR.fI k _)) (NaR.bc NaR.ff (NaR.fI k _))
theorem iBits_na (f g) : IoNa (iBits f g) := fun k x y => NaR.ii (fun a b => NaR.bc (NaR.bc (NaR.fI k _) (NaR.wI k _)) (NaR.wI k _)) (NaR.wI k _)
theorem iAndNot_na : IoNa iAndNot := fun k x y => NaR.wI k _
theorem iEql_na : IoNa iEql := fun k x y => NaR.iB _
theorem iNeq_na : IoNa iNeq := fun k x y => NaR.iB _
theorem iLss_na : IoNa iLss := fun k x y => NaR.iB _
theorem iLeq_na : IoNa iLeq := fun k x y => NaR.iB _
theorem iGtr_na : IoNa iGtr := fun k x y => NaR.iB _
theorem iGeq_na : IoNa iGeq := fun k x y => NaR.iB _
theorem iShl_na : IoNa iShl := fun k x y => NaR.ii (fun a n => NaR.wN k _) (NaR.bc (NaR.wI k _) NaR.ff)
theorem iShr_na : IoNa iShr := fun k x y => NaR.ii (fun a n => NaR.fI k _) (NaR.bc (NaR.fI k _) NaR.ff)
def SoNa (f : So) : Prop := ∀ l n l' n', NaV (f l n l' n')
theorem sAdd_na : SoNa sAdd := fun l n l' n' => NaR.ok' (NaR.mkS _ _)
theorem sEql_na : SoNa sEql := fun l n l' n' => NaR.iB _
theorem sNeq_na : SoNa sNeq := fun l n l' n' => NaR.iB _
theorem sLss_na : SoNa sLss := fun l n l' n' => NaR.iB _
theorem sGtr_na : SoNa sGtr := fun l n l' n' => NaR.iB _
theorem sLeq_na : SoNa sLeq := fun l n l' n' => NaR.iB _
theorem sGeq_na : SoNa sGeq := fun l n l' n' => NaR.iB _

/-! Operands -/
def agree (L : List Nat) (t t' : TV) : Prop := ∀ u, u ∈ L → T.get undV (paOf u) t' = T.get undV (paOf u) t
theorem agree.l {L M : List Nat} {t t' : TV} (h : agree (L ++ M) t t') : agree L t t' := fun u hu => h u (List.mem_append.2 (.inl hu))
theorem agree.r {L M : List Nat} {t t' : TV} (h : agree (L ++ M) t t') : agree M t t' := fun u hu => h u (List.mem_append.2 (.inr hu))
theorem agree.x {x : D.X} {t t' : TV} (h : agree x.uses t t') : sX x t' = sX x t := by
  cases x with
  | t i => exact h i (by simp [D.X.uses])
  | c v => rfl
theorem agree.xs : ∀ {l : List D.X} {t t' : TV}, agree (D.usesL l) t t' → evs t' (sXs l) = evs t (sXs l)
  | [], _, _, _ => rfl
  | x :: l, t, t', h => by
    show sX x t' :: evs t' (sXs l) = sX x t :: evs t (sXs l)
    rw [(agree.l (M := D.usesL l) h).x, (agree.r (L := x.uses) h).xs]
theorem NaR.optN {x : Option D.X} {t t' : TV} {d : Nat} {g g' : Nat → (V → Bool) → Bool} (ha : agree (D.usesO x) t t') (h : ∀ a, NaR (g a) (g' a)) : NaR (fun k => PH.R.optN t (sXo x) d fun a => g a k) fun k => PH.R.optN t' (sXo x) d fun a => g' a k := by
  cases x with
  | none => exact h d
  | some x =>
    have e : sX x t' = sX x t := agree.x ha
    show NaR (fun k => PH.R.asN (sX x t) fun a => g a k) fun k => PH.R.asN (sX x t') fun a => g' a k
    rw [e]
    exact NaR.asN h
theorem NaR.fillP : ∀ {ps : List (Nat × Nat × D.X)} {t t' : TV} (_ : agree (D.usesP ps) t t') (z : List V), NaR (PH.R.fillP t (sPs ps) z) (PH.R.fillP t' (sPs ps) z)
  | [], _, _, _, z => NaR.k z
  | (off, sz, x) :: ps, t, t', h, z => by
    have e : sX x t' = sX x t := (agree.l (M := D.usesP ps) h).x
    have hr : agree (D.usesP ps) t t' := agree.r (L := x.uses) h
    show NaR (fun k => PH.R.ok (Nat.beq (lenL (vcells (sX x t)) 0) sz) (PH.R.ob (layL (vcells (sX x t)) off z) fun c => PH.R.fillP t (sPs ps) c k)) fun k => PH.R.ok (Nat.beq (lenL (vcells (sX x t')) 0) sz) (PH.R.ob (layL (vcells (sX x t')) off z) fun c => PH.R.fillP t' (sPs ps) c k)
    rw [e]
    exact NaR.ok' (NaR.ob fun c => NaR.fillP hr c)
theorem NaR.mmGo (mx : Bool) (ik : IntKind) : ∀ (l : List V) (x : Int), NaV fun r => PH.R.mmGo mx ik r l x
  | [], x => NaR.fI ik x
  | v :: l, x => NaR.asI fun k' y => NaR.ok' (NaR.mmGo mx ik l _)
theorem NaR.slK (sz : Nat) (b : Pa) (o lo hi m : Nat) : NaV (slK sz b o lo hi m) := by
  unfold PH.R.slK
  exact NaR.forceN fun _ => NaR.forceN fun _ => NaR.forceN fun _ => NaR.k _
theorem NaR.slO (sz : Nat) (b : Pa) (o d o0 lo hi : Nat) : NaV (slO sz b o d o0 lo hi) := by
  unfold PH.R.slO
  exact NaR.forceN fun _ => NaR.forceN fun _ => NaR.forceN fun _ => NaR.forceN fun _ => NaR.k _
theorem openTo_mono {h h' : H} (hl : H.le h h') {sz : Nat} {b : Pa} {o len d hi : Nat} (q : openTo h sz b o len d hi = true) : openTo h' sz b o len d hi = true := by
  unfold openTo at q ⊢
  rw [bc_eq] at q ⊢
  by_cases c : Nat.ble hi len = true
  · rw [if_pos c]
  · rw [if_neg c] at q ⊢
    obtain ⟨r, f, s, e, hb, q⟩ := asRow_true q
    rw [hl _ _ hb]
    exact q
theorem NaR.slIfK {c c' : Bool} (hc : c = true → c' = true) (sz : Nat) (b : Pa) (o lo hi m : Nat) : NaR (fun k => PH.R.slIfK c sz b o lo hi m k) fun k => PH.R.slIfK c' sz b o lo hi m k := by
  unfold PH.R.slIfK
  refine NaR.ok (fun q => ?_) (NaR.slK _ _ _ _ _ _)
  simp only [Bool.and_eq_true] at q ⊢
  exact ⟨⟨hc q.1.1, q.1.2⟩, q.2⟩
end PH.R
/-
  The reckoner: what a quiet operation comes to hangs on what it looks at alone: all of them.
-/
namespace PH.R
open Go Go.RowKit
variable {t t' : TV} {h h' : H}

theorem na_q {d : D.Op} {f : Qo} (hs : sOp d = .q f) (ha : agree d.uses t t') (hl : H.le h h') : NaR (f t h) (f t' h') := by
  cases d <;> simp only [sOp] at hs <;> (try (cases hs; done)) <;> simp only [D.Op.uses] at ha
  case mv x => cases hs; unfold qMv; rw [ha.x]; exact NaR.k _
  case pick c a b =>
    cases hs; unfold qPick
    rw [ha.l.x, ha.r.l.x, ha.r.r.x]
    exact NaR.asB fun b => NaR.bc (NaR.k _) (NaR.k _)
  case build z ps => cases hs; unfold qBuild; exact NaR.ag (NaR.fillP ha z)
  case load n a =>
    cases n with
    | none => cases hs; unfold qLoad1; rw [ha.x]; exact NaR.asP fun b o => NaR.load1 hl b o
    | some n => cases hs; unfold qLoadN; rw [ha.x]; exact NaR.asP fun b o => NaR.ag (NaR.loadN hl b o n)
  case nilck x =>
    cases hs; unfold qNilck; rw [ha.x]
    intro k q
    obtain ⟨q1, q2⟩ := nilck_true q
    refine ⟨_, q1, fun k' q' => ?_⟩
    rcases q2 with ⟨b, o, e⟩ | ⟨f, a, c, e⟩ | ⟨u, v, e⟩ | ⟨n, tb, a, e, hm⟩ <;> rw [e] at q' ⊢
    · exact q'
    · exact q'
    · exact q'
    · exact ok_true.2 ⟨hm, q'⟩
  case arith op x y =>
    have key : ∀ {g : Io}, IoNa g → NaR (qI g (sX x) (sX y) t h) (qI g (sX x) (sX y) t' h') := fun hg => by
      unfold qI
      rw [ha.l.x, ha.r.x]
      exact NaR.asI fun k a => NaR.asI fun k' b => NaR.ok' (hg _ _ _)
    cases op <;> simp only at hs <;> first | (cases hs; done) | (cases hs; first | exact key iAdd_na | exact key iSub_na | exact key iMul_na | exact key iQuo_na | exact key iRem_na | exact key (iBits_na _ _) | exact key iAndNot_na | exact key iEql_na | exact key iNeq_na | exact key iLss_na | exact key iLeq_na | exact key iGtr_na | exact key iGeq_na)
  case shift op x y =>
    have key : ∀ {g : Io}, IoNa g → NaR (qSh g (sX x) (sX y) t h) (qSh g (sX x) (sX y) t' h') := fun hg => by
      unfold qSh
      rw [ha.l.x, ha.r.x]
      exact NaR.asI fun k a => NaR.asI fun k' b => hg _ _ _
    cases op <;> simp only at hs <;> first | (cases hs; done) | (cases hs; first | exact key iShl_na | exact key iShr_na)
  case str op x y =>
    have key : ∀ {g : So}, SoNa g → NaR (qStr g (sX x) (sX y) t h) (qStr g (sX x) (sX y) t' h') := fun hg => by
      unfold qStr
      rw [ha.l.x, ha.r.x]
      exact NaR.asS fun k a => NaR.asS fun k' b => hg _ _ _ _
    cases op <;> simp only at hs <;> first | (cases hs; done) | (cases hs; first | exact key sAdd_na | exact key sEql_na | exact key sNeq_na | exact key sLss_na | exact key sLeq_na | exact key sGtr_na | exact key sGeq_na)
  case eqv neg m x y =>
    cases hs; unfold qEqv; rw [ha.l.x, ha.r.x]
    exact NaR.ob fun r => NaR.iB _
  case un op x =>
    cases op <;> simp only [sOp] at hs <;> first | (cases hs; done) | skip
    · cases hs; unfold qNeg; rw [ha.x]; exact NaR.asI fun k n => iSub_na _ _ _
    · cases hs; unfold qNot; rw [ha.x]; exact NaR.asB fun b => NaR.bc (NaR.k _) (NaR.k _)
  case cvInt k x =>
    cases hs; unfold qInt; rw [ha.x]
    exact NaR.asI fun _ n => NaR.int (fun a => NaR.wN _ _) fun a => NaR.wI _ _
  case cvBS x =>
    cases hs; unfold qBS; rw [ha.x]
    exact NaR.asSlN (fun b o l c => NaR.asRow hl fun r f s e => NaR.bind (NaR.part r o l) fun r => NaR.row (fun l => NaR.ob fun q => NaR.mkS _ _) fun l n => NaR.k _) (NaR.k _)
  case cvIS x => cases hs; unfold qIS; rw [ha.x]; exact NaR.asN fun n => NaR.ok' (NaR.k _)
  case cvPU x => cases hs; unfold qPU; rw [ha.x]; exact NaR.asPn (fun b o => NaR.asRow hl fun r f s e => NaR.ok' (NaR.k _)) (NaR.k _)
  case cvUP el n x => cases hs; unfold qUP; rw [ha.x]; exact NaR.asPn (fun b o => NaR.asRow hl fun r f s e => NaR.ok' (NaR.k _)) (NaR.k _)
  case toArr n x => cases hs; unfold qArr; rw [ha.x]; exact NaR.asSl fun b o l c => NaR.ok' (NaR.k _)
  case mkI u x => cases hs; unfold qMkI; rw [ha.x]; exact NaR.k _
  case mkF f a c => cases hs; unfold qMkF; rw [ha.l.xs, ha.r.xs]; exact NaR.k _
  case mkFM n tb a => cases hs; unfold qMkFM; rw [ha.xs]; exact NaR.k _
  case slStr x lo hi =>
    cases hs; unfold qSlStr; rw [ha.l.x]
    exact NaR.asS fun l n => NaR.optN ha.r.r fun hi => NaR.optN ha.r.l fun lo => NaR.ok' (NaR.ok' (NaR.mkS _ _))
  case slSl sz x lo hi mx =>
    cases hs; unfold qSlSl; rw [ha.l.x]
    have hlo := ha.r.l
    have hhi := ha.r.r.l
    have hmx := ha.r.r.r
    refine NaR.asSlN (fun b o l c => NaR.cap (fun cap => NaR.optN hmx fun m => NaR.optN hhi fun hi => NaR.optN hlo fun lo => NaR.slIfK id _ _ _ _ _ _) fun d o0 => ?_) (NaR.optN hmx fun m => NaR.optN hhi fun hi => NaR.optN hlo fun lo => NaR.ok' (NaR.k _))
    cases mx with
    | none =>
      refine NaR.optN hhi fun hi => NaR.optN hlo fun lo => NaR.ok (fun q => ?_) (NaR.slO _ _ _ _ _ _ _)
      simp only [Bool.and_eq_true] at q ⊢
      exact ⟨openTo_mono hl q.1, q.2⟩
    | some m =>
      show NaR (fun k => asN (sX m t) fun m => optN t (sXo hi) l (fun hi => optN t (sXo lo) 0 fun lo => slIfK (openTo h sz b o l d m && Nat.blt 0 m) sz b o lo hi m k)) fun k => asN (sX m t') fun m => optN t' (sXo hi) l (fun hi => optN t' (sXo lo) 0 fun lo => slIfK (openTo h' sz b o l d m && Nat.blt 0 m) sz b o lo hi m k)
      have hmx : agree m.uses t t' := hmx
      rw [hmx.x]
      refine NaR.asN fun m => NaR.optN hhi fun hi => NaR.optN hlo fun lo => NaR.slIfK (fun q => ?_) _ _ _ _ _ _
      simp only [Bool.and_eq_true] at q ⊢
      exact ⟨openTo_mono hl q.1, q.2⟩
  case slArr n sz x lo hi mx =>
    cases hs; unfold qSlArr; rw [ha.l.x]
    exact NaR.asP fun b o => NaR.optN ha.r.r.r fun m => NaR.optN ha.r.r.l fun hi => NaR.optN ha.r.l fun lo => NaR.slIfK id _ _ _ _ _ _
  case faddr off x => cases hs; unfold qFaddr; rw [ha.x]; exact NaR.asP fun b o => NaR.forceN fun _ => NaR.k _
  case fld off n x =>
    cases n with
    | none => cases hs; unfold qFld1; rw [ha.x]; exact NaR.asAg fun l => NaR.nth l off
    | some n => cases hs; unfold qFldN; rw [ha.x]; exact NaR.asAg fun l => NaR.ob fun q => NaR.k _
  case ixArr l s x i => cases hs; unfold qIxArr; rw [ha.l.x, ha.r.x]; exact NaR.asP fun b o => NaR.asN fun i => NaR.ok' (NaR.forceN fun _ => NaR.k _)
  case ixSl s x i => cases hs; unfold qIxSl; rw [ha.l.x, ha.r.x]; exact NaR.asSl fun b o l c => NaR.asN fun i => NaR.ok' (NaR.forceN fun _ => NaR.k _)
  case ixStr x i => cases hs; unfold qIxStr; rw [ha.l.x, ha.r.x]; exact NaR.asS fun l n => NaR.asN fun i => NaR.ok' (NaR.forceN fun _ => NaR.k _)
  case lookup te z c m x =>
    cases hs; unfold qLookup; rw [ha.l.x, ha.r.x]
    exact NaR.asMp (fun r => NaR.asMap hl fun es cl => NaR.keyOk (NaR.ob fun f => NaR.opt (NaR.k _) fun f => NaR.k _)) (NaR.keyOk (NaR.k _))
  case entry it =>
    cases hs; unfold qEntry; rw [ha.x]
    refine NaR.asP fun r o => ?_
    intro k q
    cases hb : h.get r with
    | none => rw [hb] at q; cases q
    | some x =>
      rw [hl _ _ hb]
      rw [hb] at q
      cases x with
      | itM m since seen stepped =>
        cases m with
        | none => cases q
        | some m =>
          cases seen with
          | nil => cases q
          | cons born seen =>
            cases seen with
            | cons _ _ => cases q
            | nil =>
              have key : NaR (fun k => asMap (h.get m) fun es clock => match es with
                  | [(x, v, born')] => ok (Nat.beq o 0 && Nat.beq clock stepped && Nat.beq born born') (k (.tu [x, v]))
                  | _ => false) (fun k => asMap (h'.get m) fun es clock => match es with
                  | [(x, v, born')] => ok (Nat.beq o 0 && Nat.beq clock stepped && Nat.beq born born') (k (V.tu [x, v]))
                  | _ => false) := NaR.asMap hl fun es cl => by
                cases es with
                | nil => exact NaR.ff
                | cons e es =>
                  cases es with
                  | cons _ _ => exact NaR.ff
                  | nil => exact NaR.ok' (NaR.k _)
              exact key k q
      | _ => cases q
  case tass u z c x =>
    cases hs; unfold qTass; rw [ha.x]
    exact NaR.asIc (fun u' v => NaR.bc (NaR.k _) (NaR.ok' (NaR.k _))) (NaR.ok' (NaR.k _))
  case extr i x => cases hs; unfold qExtr; rw [ha.x]; exact NaR.asTu fun l => NaR.nth l i
  case len x => cases hs; unfold qLen; rw [ha.x]; exact NaR.asSlN (fun _ _ _ _ => NaR.mkN _) (NaR.k _)
  case lenS x => cases hs; unfold qLenS; rw [ha.x]; exact NaR.asS fun _ _ => NaR.mkN _
  case lenM x => cases hs; unfold qLenM; rw [ha.x]; exact NaR.asMp (fun r => NaR.asMap hl fun es c => NaR.mkN _) (NaR.k _)
  case cap x => cases hs; unfold qCap; rw [ha.x]; exact NaR.asSlN (fun _ _ _ c => NaR.cap (fun n => NaR.mkN _) fun _ _ => NaR.ff) (NaR.k _)
  case mm mx l =>
    cases l with
    | nil => cases hs
    | cons x l =>
      cases hs; unfold qMm
      have h1 : agree x.uses t t' := agree.l (M := D.usesL l) ha
      have h2 : agree (D.usesL l) t t' := agree.r (L := x.uses) ha
      rw [h1.x, h2.xs]
      exact NaR.asI fun k n => NaR.mmGo mx k _ n
  case usd x => cases hs; unfold qUsd; rw [ha.x]; exact NaR.asSlN (fun b o l c => NaR.ok' (NaR.k _)) (NaR.k _)
/-- What makes a new object. -/
abbrev fA (f : Ao) (t : TV) (k : B × (Pa → V) → Bool) : Bool := f t fun x mk => k (x, mk)
theorem na_a {d : D.Op} {f : Ao} (hs : sOp d = .a f) (ha : agree d.uses t t') : NaR (fA f t) (fA f t') := by
  cases d <;> simp only [sOp] at hs <;> (try (cases hs; done)) <;> simp only [D.Op.uses] at ha
  case new el z => cases hs; exact NaR.k (α := B × (Pa → V)) _
  case box el n x => cases hs; unfold fA aBox; rw [ha.x]; exact NaR.ok' (NaR.k (α := B × (Pa → V)) _)
  case bslice el sz len z ps => cases hs; unfold fA aBslice; exact NaR.ok' (NaR.bind (NaR.fillP ha _) fun l => NaR.k (α := B × (Pa → V)) _)
  case load n a => cases n <;> cases hs
  case fld o n a => cases n <;> cases hs
  case arith op x y => cases op <;> cases hs
  case shift op x y => cases op <;> cases hs
  case str op x y => cases op <;> cases hs
  case un op x => cases op <;> simp only [sOp] at hs <;> cases hs
  case mm mx l => cases l <;> cases hs
  case cvSB el x => cases hs; unfold fA aSB; rw [ha.x]; exact NaR.asS fun l n => NaR.k (α := B × (Pa → V)) _
  case cvSR el x => cases hs; unfold fA aSR; rw [ha.x]; exact NaR.asS fun l n => NaR.ok' (NaR.k (α := B × (Pa → V)) _)
  case mkMap => cases hs; exact NaR.k (α := B × (Pa → V)) _
  case mkSl el sz b z l c => cases hs; unfold fA aMkSl; rw [ha.l.x, ha.r.x]; exact NaR.asN fun l => NaR.asN fun c => NaR.ok' (NaR.k (α := B × (Pa → V)) _)
  case mkBy el l c => cases hs; unfold fA aMkBy; rw [ha.l.x, ha.r.x]; exact NaR.asN fun l => NaR.asN fun c => NaR.ok' (NaR.k (α := B × (Pa → V)) _)
end PH.R
/-
  The reckoner: what its machine stands for: frames, their callers, loops.
-/
namespace PH.R
open Go Go.RowKit
noncomputable section

section
variable (P : Program) (ms : String → List (Nat × Nat × Rc)) (ty : Nat → Option D.Ty) (ts : List (Nat × TE))
/-- Code, made ready. -/
def cc (n : Nat) (c : Code) : C := sC (D.cOf ty ms ts P.globals.size n c)
/-- An operation of a region, made ready. -/
def dO (n : Nat) (ops : Array Oper) (o : Oper) : D.O := D.oOf ty ms ts P.globals.size n ops o
def om (n : Nat) (ops : Array Oper) (i : Nat) : O := match ops[i]? with
  | some o => sO (dO P ms ty ts n ops o)
  | none => ⟨none, none, .l lBad⟩
def dOs (n : Nat) (ops : Array Oper) : List D.O := ops.toList.map (dO P ms ty ts n ops)
def clo (ops : Array Oper) : List Nat := (Region.before ops).toList
def deps (ops : Array Oper) : List Nat := ops.toList.map D.direct

def lsRel : Ls → LoopState → Prop
  | .ready, .ready | .busy, .busy | .done, .done | .exhausted, .exhausted => True
  | _, _ => False
def jRel : Option C → Option Code → Prop
  | none, none => True
  | some .ret, some .ret => True
  | some (.exit i), some (.exit j) => i = j
  | some (.goto i), some (.goto j) => i = j
  | _, _ => False
/-- What temporaries hold. -/
def TmpRel (μ : Mu) (n : Nat) (t : TV) (tmps : Array Value) (pend : Nat → Prop) : Prop :=
  tmps.size = n ∧ n < big ∧ ∀ u, u < big → ¬ pend u → conc ms μ (T.get undV (paOf u) t) = some (tmps.getD u undef)
/-- What a loop over a function is. -/
def LpRel (μ : Mu) (L : Lp) (o : Obj) : Prop := ∃ l : Loop, o = .loop l ∧ lsRel L.st l.state ∧ l.fn = L.fn ∧ TmpRel ms μ L.n L.tmps l.tmps (fun _ => False) ∧ L.params = l.params.toList.map paOf ∧ (∀ p ∈ l.params, p < L.n) ∧
  L.assign = cc P ms ty ts L.n l.assign ∧ L.body = cc P ms ty ts L.n l.body ∧ jRel L.pending l.pending ∧ ∃ e, μ L.defers = some e ∧ e.blk = l.defers
end
theorem TmpRel.mono {ms : String → List (Nat × Nat × Rc)} {μ μ' : Mu} {n : Nat} {t : TV} {tmps : Array Value} {pend : Nat → Prop} (h : TmpRel ms μ n t tmps pend) (k : Mu.le μ μ') : TmpRel ms μ' n t tmps pend :=
  ⟨h.1, h.2.1, fun u hu hp => conc_mono ms k _ _ (h.2.2 u hu hp)⟩
theorem LpRel.mono {P : Program} {ms : String → List (Nat × Nat × Rc)} {ty : Nat → Option D.Ty} {ts : List (Nat × TE)} {μ μ' : Mu} {L : Lp} {o : Obj} (h : LpRel P ms ty ts μ L o) (k : Mu.le μ μ') : LpRel P ms ty ts μ' L o := by
  obtain ⟨l, h1, h2, h3, h4, h5, h6, h7, h8, h9, e, he, hb⟩ := h
  exact ⟨l, h1, h2, h3, h4.mono k, h5, h6, h7, h8, h9, e, k _ _ he, hb⟩
/-- What is given once for all, of a program. -/
def cx (P : Program) (ms : String → List (Nat × Nat × Rc)) (ty : Nat → Option D.Ty) (ts : List (Nat × TE)) : Cx := ⟨P, ms, LpRel P ms ty ts, fun _ _ _ _ k h => h.mono k⟩

/-- The program is the machine's. -/
structure Prg (X : Cx) (ty : Nat → Option D.Ty) (ts : List (Nat × TE)) (E : Env) : Prop where
  tt : TyOk X.P ty
  mm : MsOk X
  tso : TsOk X.P ts
  fns : ∀ f x, f < big → T.get none (paOf f) E = some x → ∃ fn d, X.P.funcs[f]? = some fn ∧ (fn.name == "runtime.NumGoroutine") = false ∧ D.fnOf ty X.ms ts X.P.globals.size fn = some d ∧ x = sFn d
  mixed : X.P.follows .mixedOrders = true
  lr : ∀ μ L o, X.LR μ L o ↔ LpRel X.P X.ms ty ts μ L o

section
variable (X : Cx) (ty : Nat → Option D.Ty) (ts : List (Nat × TE))
/-- A frame's standing parts. -/
structure ARel (μ : Mu) (x : Fx) (t : TV) (pend : Nat → Prop) (b : Frame) (a : Act) : Prop where
  fn : b.fn = x.fn
  tmp : TmpRel X.ms μ x.n t a.tmps pend
  dfs : DfsRel X μ x.dfs a.defers
  kd : b.kind = (match x.kd with | .normal => .normal | .deferred => .deferred)
  rnd : match x.rnd with | none => b.roundOf = none | some l => ∃ e, μ l = some e ∧ b.roundOf = some e.blk

/-- What is left to do, where no region has been begun. -/
inductive TR (n : Nat) : List I → List Item → Prop where
  | nil : TR n [] []
  | code {l m} (c : Code) : TR n l m → TR n (.code (cc X.P X.ms ty ts n c) :: l) (.code c :: m)
  | blk {l m} (id : Nat) : TR n l m → TR n (.blk id :: l) (.inBlock id :: m)
  | loop {l m} (c : Code) : TR n l m → TR n (.loop (cc X.P X.ms ty ts n c) :: l) (.inLoop c :: m)
  | scope {l m} (c : Code) : TR n l m → TR n (.scope (cc X.P X.ms ty ts n c) :: l) (.inScope c :: m)
  | br {l m} : TR n l m → TR n (.br :: l) (.beginRound :: m)

/-- What is bound ahead of an operation. -/
def bound (ops : Array Oper) (i j : Nat) : Prop := ∃ o, ops[i]? = some o ∧ ∃ e, e ∈ o.after ∧ Region.binds .any e = true ∧ e.on = j

/-- A region that draws its order, half done: what the machine has done, what the model has yet to do. -/
structure Reg (n : Nat) (ops : Array Oper) (done lc : Nat) (ps : List D.PS) (idxs : List Nat) : Prop where
  edges : D.edgesOk ops.toList = true
  ssa : D.ssaOk ops.toList (dOs X.P X.ms ty ts n ops) (clo ops) = true
  plan : ∃ f, D.planFrom (dOs X.P X.ms ty ts n ops) (deps ops) (clo ops) f done lc = some ps
  lt : ∀ i, i ∈ idxs → i < ops.size
  nodup : idxs.Nodup
  ord : ∀ pre i post, idxs = pre ++ i :: post → ∀ j, bound ops i j → j ∉ i :: post
  out : ∀ i, i < ops.size → i ∉ idxs → done.testBit i = true
  loud : ∀ i o, i ∈ idxs → done.testBit i = true → ops[i]? = some o → D.loudO (dO X.P X.ms ty ts n ops o).op = false
  lc : ∀ i, i ∈ idxs → lc.testBit i = false
  inb : ∀ i, done.testBit i = true → i < ops.size
  closed : ∀ i j, done.testBit i = true → bound ops i j → done.testBit j = true
  mclosed : ∀ i j, i < ops.size → i ∉ idxs → bound ops i j → j ∉ idxs

/-- What the machine has done, and the model has not. -/
def isP (done : Nat) (idxs : List Nat) (i : Nat) : Prop := i ∈ idxs ∧ done.testBit i = true
def pendOf (ops : Array Oper) (done : Nat) (idxs : List Nat) (u : Nat) : Prop := ∃ i o, isP done idxs i ∧ ops[i]? = some o ∧ o.dst = some u

/-- The new objects that the model has not made. -/
structure Pnd (μ : Mu) (lo hi : Nat) (t : TV) (n : Nat) (ops : Array Oper) (done : Nat) (idxs : List Nat) : Prop where
  free : ∀ i f d b, isP done idxs i → (om X.P X.ms ty ts n ops i).s = .a f → (om X.P X.ms ty ts n ops i).d = some d → idOf (T.get undV d t) = some b → μ b = none ∧ lo ≤ b.num ∧ b.num < hi
  inj : ∀ i j f g d d' b, isP done idxs i → isP done idxs j → i ≠ j → (om X.P X.ms ty ts n ops i).s = .a f → (om X.P X.ms ty ts n ops j).s = .a g → (om X.P X.ms ty ts n ops i).d = some d → (om X.P X.ms ty ts n ops j).d = some d' →
    idOf (T.get undV d t) = some b → idOf (T.get undV d' t) = some b → False

/-- An operation that was done ahead would do the same now. -/
def Res (t : TV) (h : H) (O : O) : Prop :=
  (wanted t O.g = true → match O.s with
    | .q f => ∃ v, (∀ d, O.d = some d → T.get undV d t = v) ∧ ∀ k, k v = true → f t h k = true
    | .a f => ∃ d x mk b y, O.d = some d ∧ T.get undV d t = mk b ∧ idOf (T.get undV d t) = some b ∧ h.get b = some y ∧ (∀ μ e ob, ObjRel X μ x e ob → ObjRel X μ y e ob) ∧ ∀ k, k x mk = true → f t k = true
    | .l _ => False) ∧
  (wanted t O.g = false → ∀ d, O.d = some d → T.get undV d t = undV)

/-- What a frame that waits for a call has left to do. -/
inductive Wait (μ : Mu) (lo hi n : Nat) (t : TV) : List I → List Item → (Nat → Prop) → Prop where
  | seq {l m ops i idxs} : TR X ty ts n l m → (∀ j, j ∈ i :: idxs → j < ops.size) → (∀ oo d, ops[i]? = some oo → oo.dst = some d → d < n) → Wait μ lo hi n t (.seq (om X.P X.ms ty ts n ops i :: idxs.map (om X.P X.ms ty ts n ops)) :: l) (.inRegion ops (i :: idxs) :: m) (fun _ => False)
  | rd {l m ops done lc o re ps i idxs} : TR X ty ts n l m → Reg X ty ts n ops done lc (.l o re :: ps) (i :: idxs) → done.testBit i = false → Pnd X ty ts μ lo hi t n ops done (i :: idxs) → (∀ oo d, ops[i]? = some oo → oo.dst = some d → d < n) →
      Wait μ lo hi n t (.rd (.l (sO o) (sOs re) :: sPSs ps) :: l) (.inRegion ops (i :: idxs) :: m) (pendOf ops done (i :: idxs))
  | rf {l m p e} : TR X ty ts n l m → μ p = some e → Wait μ lo hi n t (.rf p :: l) (.inRangeFunc e.blk :: m) (fun _ => False)

/-- What a running frame has left to do. -/
inductive Rn (μ : Mu) (lo hi n : Nat) (t : TV) (h : H) : List I → List Item → (Nat → Prop) → Prop where
  | plain {l m} : TR X ty ts n l m → Rn μ lo hi n t h l m (fun _ => False)
  | seq {l m ops idxs} : TR X ty ts n l m → (∀ j, j ∈ idxs → j < ops.size) → Rn μ lo hi n t h (.seq (idxs.map (om X.P X.ms ty ts n ops)) :: l) (.inRegion ops idxs :: m) (fun _ => False)
  | rd {l m ops done lc ps idxs} : TR X ty ts n l m → Reg X ty ts n ops done lc ps idxs → Pnd X ty ts μ lo hi t n ops done idxs → (∀ i, isP done idxs i → Res X t h (om X.P X.ms ty ts n ops i)) →
      (ps = [] ∨ ∃ o re ps', ps = .l o re :: ps') → Rn μ lo hi n t h (.rd (sPSs ps) :: l) (.inRegion ops idxs :: m) (pendOf ops done idxs)
  | erf {l m p e} : TR X ty ts n l m → μ p = some e → Rn μ lo hi n t h (.erf p :: l) (.endRangeFunc e.blk :: m) (fun _ => False)

def FrRel (μ : Mu) (lo hi : Nat) (f : Fr) (c : Frame) : Prop := ∃ b a todo pend, ARel X μ f.x f.t pend b a ∧
  (f.run = true → c = b.atR a todo ∧ Wait X ty ts μ lo hi f.x.n f.t f.todo todo pend) ∧
  (f.run = false → c = { b.atR a todo with mode := .returning } ∧ pend = fun _ => False)
def CsRel (cs0 : List Frame) (μ : Mu) : Nat → List Fr → List Frame → Prop
  | _, [], cs => cs = cs0
  | hi, f :: fs, c :: cs => ∃ lo, lo ≤ hi ∧ FrRel X ty ts μ lo hi f c ∧ CsRel cs0 μ lo fs cs
  | _, _ :: _, [] => False

/-- What the machine stands for. -/
def RcM (cs0 : List Frame) (w0 : World) (c : Cf) (m : Machine) : Prop := match c with
  | .run k t todo h => ∃ μ lo w b a items pend cs, m = lone (b.atR a items) cs w ∧ HRel X μ h k.ls w0 w ∧ lo ≤ h.next ∧ ARel X μ k.x t pend b a ∧ Rn X ty ts μ lo h.next k.x.n t h todo items pend ∧ CsRel X ty ts cs0 μ lo k.cs cs
  | .ret k t h => ∃ μ lo w b a items cs, m = lone { b.atR a items with mode := .returning } cs w ∧ HRel X μ h k.ls w0 w ∧ lo ≤ h.next ∧ ARel X μ k.x t (fun _ => False) b a ∧ CsRel X ty ts cs0 μ lo k.cs cs
/-- The machine goes on, and so does the model. -/
def Sm (cs0 : List Frame) (w0 : World) (r : Cf → Bool) (m : Machine) : Prop := ∃ c' m', Steps X.P m m' ∧ RcM X ty ts cs0 w0 c' m' ∧ r c' = true
end
section
variable {X : Cx} {ty : Nat → Option D.Ty} {ts : List (Nat × TE)} {cs0 : List Frame} {w0 : World}
theorem Sm.of {r : Cf → Bool} {m m' : Machine} (h : Steps X.P m m') (k : Sm X ty ts cs0 w0 r m') : Sm X ty ts cs0 w0 r m :=
  let ⟨c, m2, a, b, d⟩ := k
  ⟨c, m2, h.trans a, b, d⟩
theorem Sm.head {r : Cf → Bool} {m m' : Machine} (h : Go.step X.P m = .next m') (k : Sm X ty ts cs0 w0 r m') : Sm X ty ts cs0 w0 r m := Sm.of (.one h) k
theorem ARel.mono {μ μ' : Mu} {x : Fx} {t : TV} {pend : Nat → Prop} {b : Frame} {a : Act} (h : ARel X μ x t pend b a) (k : Mu.le μ μ') : ARel X μ' x t pend b a := by
  refine ⟨h.fn, h.tmp.mono k, h.dfs.mono k, h.kd, ?_⟩
  have := h.rnd
  revert this
  cases x.rnd with
  | none => exact id
  | some l => exact fun ⟨e, h1, h2⟩ => ⟨e, k _ _ h1, h2⟩
theorem Pnd.mono {μ μ' : Mu} {lo hi hi' : Nat} {t : TV} {n : Nat} {ops : Array Oper} {done : Nat} {idxs : List Nat} (h : Pnd X ty ts μ lo hi t n ops done idxs) (k : ∀ b : Pa, b.num < hi → μ' b = μ b) (hh : hi ≤ hi') : Pnd X ty ts μ' lo hi' t n ops done idxs := by
  refine ⟨fun i f d b a1 a2 a3 a4 => ?_, h.inj⟩
  obtain ⟨b1, b2, b3⟩ := h.free i f d b a1 a2 a3 a4
  exact ⟨by rw [k b b3]; exact b1, b2, Nat.lt_of_lt_of_le b3 hh⟩
theorem Wait.mono {μ μ' : Mu} {lo hi hi' n : Nat} {t : TV} {l : List I} {m : List Item} {p : Nat → Prop} (h : Wait X ty ts μ lo hi n t l m p) (k : Mu.le μ μ') (kk : ∀ b : Pa, b.num < hi → μ' b = μ b) (hh : hi ≤ hi') : Wait X ty ts μ' lo hi' n t l m p := by
  cases h with
  | seq a b c => exact .seq a b c
  | rd a b c d e => exact .rd a b c (d.mono kk hh) e
  | rf a b => exact .rf a (k _ _ b)
theorem FrRel.mono {μ μ' : Mu} {lo hi hi' : Nat} {f : Fr} {c : Frame} (h : FrRel X ty ts μ lo hi f c) (k : Mu.le μ μ') (kk : ∀ b : Pa, b.num < hi → μ' b = μ b) (hh : hi ≤ hi') : FrRel X ty ts μ' lo hi' f c := by
  obtain ⟨b, a, todo, pend, h1, h2, h3⟩ := h
  exact ⟨b, a, todo, pend, h1.mono k, fun e => ⟨(h2 e).1, (h2 e).2.mono k kk hh⟩, h3⟩
theorem CsRel.mono {μ μ' : Mu} (k : Mu.le μ μ') : ∀ {hi hi' : Nat} {fs : List Fr} {cs : List Frame}, CsRel X ty ts cs0 μ hi fs cs → (∀ b : Pa, b.num < hi → μ' b = μ b) → hi ≤ hi' → CsRel X ty ts cs0 μ' hi' fs cs
  | _, _, [], _, h, _, _ => h
  | _, _, _ :: _, _ :: _, ⟨lo, h1, h2, h3⟩, kk, hh => ⟨lo, Nat.le_trans h1 hh, h2.mono k kk hh, CsRel.mono k h3 (fun b hb => kk b (Nat.lt_of_lt_of_le hb h1)) (Nat.le_refl _)⟩
  | _, _, _ :: _, [], h, _, _ => h.elim
theorem ARel.ev {μ : Mu} {x : Fx} {t : TV} {pend : Nat → Prop} {b : Frame} {a : Act} (h : ARel X μ x t pend b a) {y : Operand} (hy : ∀ u, y = .tmp u → ¬ pend u) : XOk X μ t a.eval y := fun i hi hb => by
  subst hi
  exact h.tmp.2.2 i hb (hy i rfl)
theorem evOk (a : Act) : EvOk a.eval := ⟨fun _ => rfl, fun _ => rfl, fun _ => rfl⟩
end
end
end PH.R
/-
  The reckoner: regions that draw their order: plans, orders; no program in sight.
-/
namespace PH.R
open Go Go.RowKit

/-! Bits -/
theorem tb_or_pow (a i j : Nat) : (a ||| 2 ^ i).testBit j = (a.testBit j || decide (i = j)) := by
  rw [Nat.testBit_or, Nat.testBit_two_pow]
/-- What is bound, as a number. -/
theorem fold_bits (p : Edge → Bool) (g : Edge → Nat) (j : Nat) : ∀ (l : List Edge) (s : Nat), (l.foldl (fun s e => if p e then s ||| g e else s) s).testBit j = true ↔ s.testBit j = true ∨ ∃ e, e ∈ l ∧ p e = true ∧ (g e).testBit j = true
  | [], s => by simp
  | e :: l, s => by
    rw [List.foldl_cons, fold_bits p g j l]
    by_cases c : p e = true
    · rw [if_pos c, Nat.testBit_or, Bool.or_eq_true]
      constructor
      · rintro ((h | h) | ⟨e', h1, h2, h3⟩)
        · exact .inl h
        · exact .inr ⟨e, by simp, c, h⟩
        · exact .inr ⟨e', by simp [h1], h2, h3⟩
      · rintro (h | ⟨e', h1, h2, h3⟩)
        · exact .inl (.inl h)
        · rcases List.mem_cons.1 h1 with rfl | h1
          · exact .inl (.inr h3)
          · exact .inr ⟨e', h1, h2, h3⟩
    · rw [if_neg c]
      constructor
      · rintro (h | ⟨e', h1, h2, h3⟩)
        · exact .inl h
        · exact .inr ⟨e', by simp [h1], h2, h3⟩
      · rintro (h | ⟨e', h1, h2, h3⟩)
        · exact .inl h
        · rcases List.mem_cons.1 h1 with rfl | h1
          · exact absurd h2 c
          · exact .inr ⟨e', h1, h2, h3⟩
theorem direct_bits (o : Oper) (j : Nat) : (D.direct o).testBit j = true ↔ ∃ e, e ∈ o.after ∧ Region.binds .any e = true ∧ e.on = j := by
  unfold D.direct
  rw [← Array.foldl_toList, fold_bits]
  simp only [Nat.zero_testBit, Bool.false_eq_true, false_or, Nat.testBit_two_pow, decide_eq_true_eq, Array.mem_toList_iff]

/-! What is ahead of an operation -/
def bstep (acc : Array Nat) (o : Oper) : Array Nat := acc.push (o.after.foldl (fun s e => if Region.binds .any e then s ||| 2 ^ e.on ||| acc.getD e.on 0 else s) 0)
theorem before_eq (ops : Array Oper) : Region.before ops = ops.toList.foldl bstep #[] := by
  unfold Region.before
  rw [← Array.foldl_toList]
  rfl
theorem bfold_old : ∀ (l : List Oper) (acc : Array Nat) (k : Nat), k < acc.size → (l.foldl bstep acc).getD k 0 = acc.getD k 0
  | [], _, _, _ => rfl
  | o :: l, acc, k, h => by
    rw [List.foldl_cons, bfold_old l _ k (by unfold bstep; rw [Array.size_push]; omega)]
    unfold bstep
    rw [Array.getD_eq_getD_getElem?, Array.getD_eq_getD_getElem?, Array.getElem?_push_lt h, Array.getElem?_eq_getElem h]
theorem bfold_new : ∀ (l : List Oper) (acc : Array Nat) (k : Nat) (o : Oper), l[k]? = some o → ∀ j, ((l.foldl bstep acc).getD (acc.size + k) 0).testBit j = true →
    ∃ e, e ∈ o.after ∧ Region.binds .any e = true ∧ (e.on = j ∨ ((l.foldl bstep acc).getD e.on 0).testBit j = true)
  | [], _, _, _, h, _, _ => by cases h
  | o' :: l, acc, 0, o, h, j, hj => by
    cases h
    rw [List.foldl_cons, Nat.add_zero, bfold_old l _ acc.size (by unfold bstep; rw [Array.size_push]; omega)] at hj
    unfold bstep at hj
    rw [Array.getD_eq_getD_getElem?, Array.getElem?_push_size, Option.getD_some, ← Array.foldl_toList] at hj
    have e : ∀ (s : Nat) (e : Edge), (if Region.binds .any e then s ||| 2 ^ e.on ||| acc.getD e.on 0 else s) = if Region.binds .any e then s ||| (2 ^ e.on ||| acc.getD e.on 0) else s := fun s e => by rw [Nat.or_assoc]
    simp only [e] at hj
    rw [fold_bits] at hj
    rcases hj with hj | ⟨e, h1, h2, h3⟩
    · simp at hj
    · rw [Nat.testBit_or, Bool.or_eq_true, Nat.testBit_two_pow, decide_eq_true_eq] at h3
      refine ⟨e, Array.mem_toList_iff.1 h1, h2, h3.imp id fun h3 => ?_⟩
      have hlt : e.on < acc.size := by
        rcases Nat.lt_or_ge e.on acc.size with c | c
        · exact c
        · rw [Array.getD_eq_getD_getElem?, Array.getElem?_eq_none c] at h3; simp at h3
      rw [List.foldl_cons, bfold_old l _ e.on (by unfold bstep; rw [Array.size_push]; omega)]
      unfold bstep
      rw [Array.getD_eq_getD_getElem?, Array.getElem?_push_lt hlt, Option.getD_some]
      rw [Array.getD_eq_getD_getElem?, Array.getElem?_eq_getElem hlt, Option.getD_some] at h3
      exact h3
  | o' :: l, acc, k + 1, o, h, j, hj => by
    rw [List.foldl_cons] at hj ⊢
    have := bfold_new l (bstep acc o') k o (by simpa using h) j (by
      rw [show (bstep acc o').size = acc.size + 1 from by unfold bstep; rw [Array.size_push], Nat.add_right_comm, Nat.add_assoc]
      exact hj)
    exact this
theorem bfold_size : ∀ (l : List Oper) (acc : Array Nat), (l.foldl bstep acc).size = acc.size + l.length
  | [], acc => by simp
  | o :: l, acc => by rw [List.foldl_cons, bfold_size l, List.length_cons]; unfold bstep; rw [Array.size_push]; omega
theorem clo_step {ops : Array Oper} {i j : Nat} (h : ((clo ops).getD i 0).testBit j = true) : ∃ m, bound ops i m ∧ (m = j ∨ ((clo ops).getD m 0).testBit j = true) := by
  have e : ∀ m, (clo ops).getD m 0 = (ops.toList.foldl bstep #[]).getD m 0 := fun m => by
    unfold clo
    rw [before_eq, List.getD_eq_getElem?_getD, Array.getElem?_toList, Array.getD_eq_getD_getElem?]
  rw [e] at h
  cases ho : ops[i]? with
  | none =>
    have : ops.size ≤ i := by
      rcases Nat.lt_or_ge i ops.size with c | c
      · rw [Array.getElem?_eq_getElem c] at ho; cases ho
      · exact c
    rw [Array.getD_eq_getD_getElem?, Array.getElem?_eq_none (by rw [bfold_size]; simpa using this)] at h
    simp at h
  | some o =>
    have := bfold_new ops.toList #[] i o (by rw [Array.getElem?_toList]; exact ho) j (by simpa using h)
    obtain ⟨ed, h1, h2, h3⟩ := this
    exact ⟨ed.on, ⟨o, ho, ed, h1, h2, rfl⟩, h3.imp id fun h3 => by rw [e]; exact h3⟩
theorem edges_lt {ops : Array Oper} (h : D.edgesOk ops.toList = true) {i j : Nat} (hb : bound ops i j) : j < i := by
  obtain ⟨o, ho, e, he, hb, rfl⟩ := hb
  unfold D.edgesOk at h
  rw [List.all_eq_true] at h
  have := h (o, i) (List.mem_iff_getElem?.2 ⟨i, by rw [List.getElem?_zipIdx, Array.getElem?_toList, ho]; simp⟩)
  simp only [Array.all_eq_true_iff_forall_mem] at this
  have := this e he
  rw [hb] at this
  simpa [Nat.blt_eq] using this
theorem clo_closed {ops : Array Oper} (he : D.edgesOk ops.toList = true) {Q : Nat → Prop} (hQ : ∀ i j, Q i → bound ops i j → Q j) : ∀ (i j : Nat), Q i → ((clo ops).getD i 0).testBit j = true → Q j := by
  intro i
  induction i using Nat.strongRecOn with
  | _ i ih =>
    intro j hi h
    obtain ⟨m, hm, h⟩ := clo_step h
    rcases h with rfl | h
    · exact hQ _ _ hi hm
    · exact ih m (edges_lt he hm) j (hQ _ _ hi hm) h

/-! Plans -/
section
variable {n : Nat} {os : List D.O} {dep cl : List Nat} {done lc : Nat}
def rdy (n : Nat) (dep : List Nat) (done : Nat) : List Nat := (List.range n).filter fun i => !done.testBit i && ((dep.getD i 0) &&& done == dep.getD i 0)
theorem and_sub (a b : Nat) : (a &&& b == a) = true ↔ ∀ j, a.testBit j = true → b.testBit j = true := by
  rw [beq_iff_eq]
  constructor
  · intro h j hj
    have := congrArg (Nat.testBit · j) h
    simp only [Nat.testBit_and, hj, Bool.true_and] at this
    exact this
  · intro h
    apply Nat.eq_of_testBit_eq
    intro j
    rw [Nat.testBit_and]
    cases c : a.testBit j with
    | false => rfl
    | true => rw [h j c]; rfl
theorem mem_rdy {i : Nat} : i ∈ rdy n dep done ↔ i < n ∧ done.testBit i = false ∧ ∀ j, (dep.getD i 0).testBit j = true → done.testBit j = true := by
  unfold rdy
  rw [List.mem_filter, List.mem_range, Bool.and_eq_true, and_sub, Bool.not_eq_true']
theorem plan_inv {f : Nat} {ps : List D.PS} (h : D.planFrom os dep cl f done lc = some ps) : ∃ f', 
    (∃ i ps', ps = .q (os.getD i default) :: ps' ∧ i ∈ rdy os.length dep done ∧ D.loudO (os.getD i default).op = false ∧ D.planFrom os dep cl f' (done ||| 2 ^ i) lc = some ps') ∨
    (ps = [] ∧ rdy os.length dep done = []) ∨
    (∃ i ps', ps = .l (os.getD i default) (((List.range os.length).filter fun j => done.testBit j && !(lc ||| cl.getD i 0).testBit j && !D.loudO (os.getD j default).op).map fun j => os.getD j default) :: ps' ∧
      rdy os.length dep done = [i] ∧ D.loudO (os.getD i default).op = true ∧ D.planFrom os dep cl f' (done ||| 2 ^ i) (lc ||| cl.getD i 0) = some ps') := by
  cases f with
  | zero => cases h
  | succ f =>
    refine ⟨f, ?_⟩
    unfold D.planFrom at h
    change (match (rdy os.length dep done).find? fun i => !D.loudO (os.getD i default).op with
      | some i => (do pure (.q (os.getD i default) :: (← D.planFrom os dep cl f (done ||| 2 ^ i) lc)))
      | none => match rdy os.length dep done with
        | [] => some []
        | [i] => (do pure (.l (os.getD i default) (((List.range os.length).filter fun j => done.testBit j && !(lc ||| cl.getD i 0).testBit j && !D.loudO (os.getD j default).op).map fun j => os.getD j default) :: (← D.planFrom os dep cl f (done ||| 2 ^ i) (lc ||| cl.getD i 0))))
        | _ => none) = some ps at h
    cases hf : (rdy os.length dep done).find? fun i => !D.loudO (os.getD i default).op with
    | some i =>
      rw [hf] at h
      obtain ⟨ps', h1, h⟩ := bind_some h
      obtain rfl := pure_some h
      have h2 := List.find?_some hf
      exact .inl ⟨i, ps', rfl, List.mem_of_find?_eq_some hf, by simpa using h2, h1⟩
    | none =>
      rw [hf] at h
      simp only at h
      cases hr : rdy os.length dep done with
      | nil => rw [hr] at h; cases h; exact .inr (.inl ⟨rfl, rfl⟩)
      | cons i l =>
        rw [hr] at h
        cases l with
        | cons _ _ => cases h
        | nil =>
          obtain ⟨ps', h1, h⟩ := bind_some h
          obtain rfl := pure_some h
          have := List.find?_eq_none.1 hf i (by rw [hr]; simp)
          exact .inr (.inr ⟨i, ps', rfl, rfl, by simpa using this, h1⟩)
end
end PH.R
/-
  The reckoner: regions that draw their order: how plans and orders go on together.
-/
namespace PH.R
open Go Go.RowKit
section
variable {X : Cx} {ty : Nat → Option D.Ty} {ts : List (Nat × TE)} {n : Nat} {ops : Array Oper} {done lc : Nat} {ps : List D.PS} {idxs : List Nat}

theorem dOs_length : (dOs X.P X.ms ty ts n ops).length = ops.size := by simp [dOs]
theorem dOs_get {i : Nat} {o : Oper} (h : ops[i]? = some o) : (dOs X.P X.ms ty ts n ops)[i]? = some (dO X.P X.ms ty ts n ops o) := by
  unfold dOs
  rw [List.getElem?_map, Array.getElem?_toList, h]; rfl
theorem dOs_getD {i : Nat} {o : Oper} (h : ops[i]? = some o) : (dOs X.P X.ms ty ts n ops).getD i default = dO X.P X.ms ty ts n ops o := by
  rw [List.getD_eq_getElem?_getD, dOs_get h]; rfl
theorem om_get {i : Nat} {o : Oper} (h : ops[i]? = some o) : om X.P X.ms ty ts n ops i = sO (dO X.P X.ms ty ts n ops o) := by
  unfold om; rw [h]
theorem deps_bits {i j : Nat} : ((deps ops).getD i 0).testBit j = true ↔ bound ops i j := by
  unfold deps bound
  rw [List.getD_eq_getElem?_getD, List.getElem?_map, Array.getElem?_toList]
  cases h : ops[i]? with
  | none => simp
  | some o =>
    rw [Option.map_some, Option.getD_some, direct_bits]
    constructor
    · exact fun h => ⟨o, rfl, h⟩
    · rintro ⟨o', h1, h2⟩; cases h1; exact h2
theorem has_op {i : Nat} (h : i < ops.size) : ∃ o, ops[i]? = some o := ⟨_, Array.getElem?_eq_getElem h⟩
theorem ready_iff {i : Nat} : i ∈ rdy (dOs X.P X.ms ty ts n ops).length (deps ops) done ↔ i < ops.size ∧ done.testBit i = false ∧ ∀ j, bound ops i j → done.testBit j = true := by
  rw [mem_rdy, dOs_length]
  simp only [deps_bits]
theorem tb_set {i j : Nat} : (done ||| 2 ^ i).testBit j = true ↔ done.testBit j = true ∨ i = j := by
  rw [tb_or_pow, Bool.or_eq_true, decide_eq_true_eq]

/-- A quiet operation is done. -/
theorem Reg.quiet {o : D.O} (R : Reg X ty ts n ops done lc (.q o :: ps) idxs) : ∃ i oo, ops[i]? = some oo ∧ o = dO X.P X.ms ty ts n ops oo ∧ D.loudO o.op = false ∧ i ∈ idxs ∧ done.testBit i = false ∧ (∀ j, bound ops i j → done.testBit j = true) ∧ Reg X ty ts n ops (done ||| 2 ^ i) lc ps idxs := by
  obtain ⟨f, hp⟩ := R.plan
  obtain ⟨f', ⟨i, ps', h1, h2, h3, h4⟩ | ⟨h1, _⟩ | ⟨i, ps', h1, _⟩⟩ := plan_inv hp
  · cases h1
    obtain ⟨r1, r2, r3⟩ := ready_iff.1 h2
    obtain ⟨oo, hoo⟩ := has_op r1
    rw [dOs_getD hoo] at h3 ⊢
    have hin : i ∈ idxs := Classical.byContradiction fun c => by
      have := R.out i r1 c
      rw [r2] at this; cases this
    refine ⟨i, oo, hoo, rfl, h3, hin, r2, r3, R.edges, R.ssa, ⟨f', h4⟩, R.lt, R.nodup, R.ord, fun j a b => tb_set.2 (.inl (R.out j a b)), fun j oj a b c => ?_, R.lc, fun j a => ?_, fun j m a b => ?_, R.mclosed⟩
    · rcases tb_set.1 b with b | rfl
      · exact R.loud j oj a b c
      · rw [hoo] at c; cases c; exact h3
    · rcases tb_set.1 a with a | rfl
      · exact R.inb j a
      · exact r1
    · refine tb_set.2 (.inl ?_)
      rcases tb_set.1 a with a | rfl
      · exact R.closed j m a b
      · exact r3 m b
  · cases h1
  · cases h1
/-- The model does what the machine has done. -/
theorem Reg.model {i : Nat} (R : Reg X ty ts n ops done lc ps (i :: idxs)) (hd : done.testBit i = true) : Reg X ty ts n ops done lc ps idxs := by
  refine ⟨R.edges, R.ssa, R.plan, fun j a => R.lt j (by simp [a]), (List.nodup_cons.1 R.nodup).2, fun pre j post e k hk => R.ord (i :: pre) j post (by rw [e]; rfl) k hk, fun j a b => ?_, fun j o a b c => R.loud j o (by simp [a]) b c, fun j a => R.lc j (by simp [a]), R.inb, R.closed, fun j m a b c => ?_⟩
  · by_cases c : j = i
    · rw [c]; exact hd
    · exact R.out j a (by simp [c, b])
  · by_cases e : j = i
    · subst e
      have := R.ord [] j idxs rfl m c
      exact fun hm => this (by simp [hm])
    · have := R.mclosed j m a (by simp [e, b]) c
      exact fun hm => this (by simp [hm])
/-- The model comes to what the machine has not done. -/
theorem Reg.head {i : Nat} (R : Reg X ty ts n ops done lc ps (i :: idxs)) (hd : done.testBit i = false) (hq : ps = [] ∨ ∃ o re ps', ps = .l o re :: ps') : ∃ oo re ps' f, ops[i]? = some oo ∧ ps = .l (dO X.P X.ms ty ts n ops oo) re :: ps' ∧ D.loudO (dO X.P X.ms ty ts n ops oo).op = true ∧ (∀ j, bound ops i j → done.testBit j = true) ∧
    (∀ j oj, ops[j]? = some oj → done.testBit j = true → (lc ||| (clo ops).getD i 0).testBit j = false → D.loudO (dO X.P X.ms ty ts n ops oj).op = false → dO X.P X.ms ty ts n ops oj ∈ re) ∧ D.planFrom (dOs X.P X.ms ty ts n ops) (deps ops) (clo ops) f (done ||| 2 ^ i) (lc ||| (clo ops).getD i 0) = some ps' := by
  have hlt := R.lt i (by simp)
  have hb : ∀ j, bound ops i j → done.testBit j = true := fun j hj => by
    have h1 := R.ord [] i idxs rfl j hj
    have h2 : j < i := edges_lt R.edges hj
    exact R.out j (by omega) h1
  have hr : i ∈ rdy (dOs X.P X.ms ty ts n ops).length (deps ops) done := ready_iff.2 ⟨hlt, hd, hb⟩
  obtain ⟨f, hp⟩ := R.plan
  obtain ⟨f', ⟨i', ps', h1, h2, h3, h4⟩ | ⟨h1, h2⟩ | ⟨i', ps', h1, h2, h3, h4⟩⟩ := plan_inv hp
  · rcases hq with hq | ⟨o, re, ps'', hq⟩ <;> rw [h1] at hq <;> cases hq
  · rw [h2] at hr; cases hr
  · rw [h2] at hr
    obtain rfl := List.mem_singleton.1 hr
    obtain ⟨oo, hoo⟩ := has_op hlt
    rw [dOs_getD hoo] at h1 h3
    refine ⟨oo, _, ps', f', hoo, h1, h3, hb, fun j oj a b c d => ?_, h4⟩
    rw [List.mem_map]
    refine ⟨j, ?_, dOs_getD a⟩
    rw [List.mem_filter, List.mem_range, dOs_length, dOs_getD a]
    refine ⟨R.inb j b, ?_⟩
    rw [b, c, d]; rfl
/-- A loud operation is done, by both. -/
theorem Reg.both {i f : Nat} {o : D.O} {re : List D.O} (R : Reg X ty ts n ops done lc (.l o re :: ps) (i :: idxs)) (hb : ∀ j, bound ops i j → done.testBit j = true) (hp : D.planFrom (dOs X.P X.ms ty ts n ops) (deps ops) (clo ops) f (done ||| 2 ^ i) (lc ||| (clo ops).getD i 0) = some ps) : Reg X ty ts n ops (done ||| 2 ^ i) (lc ||| (clo ops).getD i 0) ps idxs := by
  have hni : i ∉ idxs := (List.nodup_cons.1 R.nodup).1
  have hex : ∀ j, ((clo ops).getD i 0).testBit j = true → j ∉ i :: idxs := fun j hj => by
    obtain ⟨m, hm, hj⟩ := clo_step hj
    have h1 : ∀ m, bound ops i m → m < ops.size ∧ m ∉ i :: idxs := fun m hm => ⟨Nat.lt_trans (edges_lt R.edges hm) (R.lt i (by simp)), R.ord [] i idxs rfl m hm⟩
    rcases hj with rfl | hj
    · exact (h1 m hm).2
    · exact (clo_closed R.edges (Q := fun m => m < ops.size ∧ m ∉ i :: idxs) (fun a b ⟨q1, q2⟩ hab => ⟨Nat.lt_trans (edges_lt R.edges hab) q1, R.mclosed a b q1 q2 hab⟩) m j (h1 m hm) hj).2
  refine ⟨R.edges, R.ssa, ⟨f, hp⟩, fun j a => R.lt j (by simp [a]), (List.nodup_cons.1 R.nodup).2, fun pre j post e k hk => R.ord (i :: pre) j post (by rw [e]; rfl) k hk, fun j a b => ?_, fun j oj a b c => ?_, fun j a => ?_, fun j a => ?_, fun j m a b => ?_, fun j m a b c => ?_⟩
  · by_cases c : i = j
    · exact tb_set.2 (.inr c)
    · exact tb_set.2 (.inl (R.out j a (by simp [b, Ne.symm c])))
  · rcases tb_set.1 b with b | rfl
    · exact R.loud j oj (by simp [a]) b c
    · exact absurd a hni
  · rw [Nat.testBit_or, Bool.or_eq_false_iff]
    refine ⟨R.lc j (by simp [a]), ?_⟩
    cases c : ((clo ops).getD i 0).testBit j with
    | false => rfl
    | true => exact absurd (List.mem_cons.2 (.inr a)) (hex j c)
  · rcases tb_set.1 a with a | rfl
    · exact R.inb j a
    · exact R.lt _ (by simp)
  · refine tb_set.2 (.inl ?_)
    rcases tb_set.1 a with a | rfl
    · exact R.closed j m a b
    · exact hb m b
  · by_cases e : j = i
    · subst e
      have := R.ord [] j idxs rfl m c
      exact fun hm => this (by simp [hm])
    · have := R.mclosed j m a (by simp [e, b]) c
      exact fun hm => this (by simp [hm])

/-! What may be written -/
theorem ssa_at (h : D.ssaOk ops.toList (dOs X.P X.ms ty ts n ops) (clo ops) = true) {j : Nat} {o : Oper} (ho : ops[j]? = some o) (hq : D.loudO (dO X.P X.ms ty ts n ops o).op = false) :
    (∀ u, u ∈ (dO X.P X.ms ty ts n ops o).uses → u < big ∧ u ∈ D.looksAt ops.toList o) ∧ ∃ d, o.dst = some d ∧ ∀ i oi, ops[i]? = some oi → (i ≠ j → oi.dst ≠ some d) ∧ (d ∈ D.looksAt ops.toList oi → ((clo ops).getD i 0).testBit j = true) := by
  have hlt : j < ops.size := (Array.getElem?_eq_some_iff.1 ho).1
  unfold D.ssaOk at h
  rw [List.all_eq_true] at h
  have := h j (List.mem_range.2 (by simpa using hlt))
  rw [dOs_get ho, Array.getElem?_toList, ho] at this
  simp only [hq, Bool.false_or, Bool.and_eq_true] at this
  obtain ⟨h1, h2⟩ := this
  refine ⟨fun u hu => ?_, ?_⟩
  · have := List.all_eq_true.1 h1 u hu
    simp only [Bool.and_eq_true, Nat.blt_eq, List.contains_eq_mem, decide_eq_true_eq] at this
    exact this
  · cases hd : o.dst with
    | none => rw [hd] at h2; cases h2
    | some d =>
      rw [hd] at h2
      refine ⟨d, rfl, fun i oi hi => ?_⟩
      have hli : i < ops.size := (Array.getElem?_eq_some_iff.1 hi).1
      have := List.all_eq_true.1 h2 i (List.mem_range.2 (by simpa using hli))
      rw [Array.getElem?_toList, hi] at this
      simp only [Bool.and_eq_true, Bool.or_eq_true, Nat.beq_eq, bne_iff_ne, Bool.not_eq_true', List.contains_eq_mem, decide_eq_false_iff_not] at this
      exact ⟨fun c => this.1.resolve_left c, fun c => this.2.resolve_left (fun k => k c)⟩
end
end PH.R
/-
  The reckoner: regions that draw their order: the orders that may be drawn.
-/
namespace PH.R
open Go Go.RowKit

theorem filter_lt {α : Type} {p q : α → Bool} : ∀ {l : List α}, (∀ x, x ∈ l → p x = true → q x = true) → (∃ x, x ∈ l ∧ q x = true ∧ p x = false) → (l.filter p).length < (l.filter q).length
  | [], _, ⟨x, h, _⟩ => by cases h
  | y :: l, h, ⟨x, hx, h1, h2⟩ => by
    have hle : ∀ {l : List α}, (∀ x, x ∈ l → p x = true → q x = true) → (l.filter p).length ≤ (l.filter q).length := by
      intro l
      induction l with
      | nil => intro _; simp
      | cons z l ih =>
        intro h
        have := ih fun x hx => h x (by simp [hx])
        have hz := h z (by simp)
        cases c : p z with
        | false =>
          rw [List.filter_cons_of_neg (by simp [c])]
          cases d : q z with
          | false => rw [List.filter_cons_of_neg (by simp [d])]; exact this
          | true => rw [List.filter_cons_of_pos (by simp [d]), List.length_cons]; omega
        | true => rw [List.filter_cons_of_pos (by simp [c]), List.filter_cons_of_pos (by simp [hz c]), List.length_cons, List.length_cons]; omega
    have htl := hle (l := l) fun x hx => h x (by simp [hx])
    rcases List.mem_cons.1 hx with rfl | hx
    · rw [List.filter_cons_of_neg (by simp [h2]), List.filter_cons_of_pos (by simp [h1]), List.length_cons]; omega
    · have ih := filter_lt (l := l) (fun x hx => h x (by simp [hx])) ⟨x, hx, h1, h2⟩
      have hz := h y (by simp)
      cases c : p y with
      | false =>
        rw [List.filter_cons_of_neg (by simp [c])]
        cases d : q y with
        | false => rw [List.filter_cons_of_neg (by simp [d])]; exact ih
        | true => rw [List.filter_cons_of_pos (by simp [d]), List.length_cons]; omega
      | true => rw [List.filter_cons_of_pos (by simp [c]), List.filter_cons_of_pos (by simp [hz c]), List.length_cons, List.length_cons]; omega

variable {ops : Array Oper}
def unl (ops : Array Oper) (listed : Array Bool) : List Nat := (List.range ops.size).filter fun i => !listed.getD i true
theorem getD_size {listed : Array Bool} {i : Nat} (h : i < listed.size) (a b : Bool) : listed.getD i a = listed.getD i b := by
  rw [Array.getD_eq_getD_getElem?, Array.getD_eq_getD_getElem?, Array.getElem?_eq_getElem h]; rfl
theorem ready_any {listed : Array Bool} {j : Nat} (hs : listed.size = ops.size) : j ∈ Region.ready .any ops listed ↔ j < ops.size ∧ listed.getD j true = false ∧ ∀ m, bound ops j m → listed.getD m false = true := by
  rw [mem_ready]
  constructor
  · rintro ⟨h1, o, h2, h3⟩
    refine ⟨(Array.getElem?_eq_some_iff.1 h2).1, h1, ?_⟩
    rintro m ⟨o', ho', e, he, hb, rfl⟩
    rw [h2] at ho'; cases ho'
    exact h3 e he hb
  · rintro ⟨h0, h1, h2⟩
    obtain ⟨o, ho⟩ := has_op h0
    exact ⟨h1, o, ho, fun e he hb => h2 _ ⟨o, ho, e, he, hb, rfl⟩⟩
theorem least_ready (he : D.edgesOk ops.toList = true) {listed : Array Bool} (hs : listed.size = ops.size) : ∀ i, i < ops.size → listed.getD i true = false → Region.ready .any ops listed ≠ [] := by
  intro i
  induction i using Nat.strongRecOn with
  | _ i ih =>
    intro hi hu
    by_cases c : ∀ m, bound ops i m → listed.getD m false = true
    · intro e
      have := (ready_any hs).2 ⟨hi, hu, c⟩
      rw [e] at this; cases this
    · obtain ⟨m, hm⟩ := Classical.not_forall.1 c
      obtain ⟨hb, hm⟩ := Classical.not_imp.1 hm
      have hlt := edges_lt he hb
      exact ih m hlt (by omega) (by rw [getD_size (by omega) true false]; simpa using hm)

theorem lin_ok (he : D.edgesOk ops.toList = true) : ∀ (fuel t : Nat) (listed : Array Bool), listed.size = ops.size → (unl ops listed).length ≤ fuel →
    (∀ i, i ∈ Region.linearise.go .any ops fuel t listed [] ↔ i < ops.size ∧ listed.getD i true = false) ∧ (Region.linearise.go .any ops fuel t listed []).Nodup ∧
    ∀ pre i post, Region.linearise.go .any ops fuel t listed [] = pre ++ i :: post → ∀ j, bound ops i j → listed.getD j false = true ∨ j ∈ pre := by
  intro fuel
  induction fuel with
  | zero =>
    intro t listed hs hf
    have h0 : unl ops listed = [] := List.length_eq_zero_iff.1 (by omega)
    refine ⟨fun i => ⟨fun h => by simp [Region.linearise.go] at h, fun ⟨h1, h2⟩ => ?_⟩, by simp [Region.linearise.go], fun pre i post h => by simp [Region.linearise.go] at h⟩
    have : i ∈ unl ops listed := List.mem_filter.2 ⟨List.mem_range.2 h1, by rw [h2]; rfl⟩
    rw [h0] at this; cases this
  | succ fuel ih =>
    intro t listed hs hf
    have hgo : Region.linearise.go .any ops (fuel + 1) t listed [] = match (Region.ready .any ops listed)[t % (Region.ready .any ops listed).length]? with
      | some i => Region.linearise.go .any ops fuel (t / (Region.ready .any ops listed).length) (listed.setIfInBounds i true) [i]
      | none => [] := by
      simp only [Region.linearise.go]
      rfl
    cases hi : (Region.ready .any ops listed)[t % (Region.ready .any ops listed).length]? with
    | none =>
      have hnil : Region.ready .any ops listed = [] := by
        cases hr : Region.ready .any ops listed with
        | nil => rfl
        | cons x xs =>
          rw [hr] at hi
          have hlt : t % (x :: xs).length < (x :: xs).length := Nat.mod_lt _ (by simp)
          rw [List.getElem?_eq_getElem hlt] at hi; cases hi
      rw [hgo, hi]
      refine ⟨fun i => Iff.intro (fun h => by cases h) (fun h => absurd hnil (least_ready he hs i h.1 h.2)), by simp, fun pre i post h => by simp at h⟩
    | some i =>
      have hmem := List.mem_of_getElem? hi
      obtain ⟨r1, r2, r3⟩ := (ready_any hs).1 hmem
      have hs' : (listed.setIfInBounds i true).size = ops.size := by rw [Array.size_setIfInBounds, hs]
      have hget : ∀ j d, (listed.setIfInBounds i true).getD j d = if j = i then true else listed.getD j d := fun j d => by
        rw [Array.getD_eq_getD_getElem?, Array.getElem?_setIfInBounds]
        by_cases c : j = i
        · subst c
          rw [if_pos rfl, if_pos rfl, if_pos (by omega)]; rfl
        · rw [if_neg (Ne.symm c), if_neg c, Array.getD_eq_getD_getElem?]
      have hcount : (unl ops (listed.setIfInBounds i true)).length < (unl ops listed).length := by
        refine filter_lt (fun x hx h => ?_) ⟨i, List.mem_range.2 r1, by rw [r2]; rfl, by rw [hget, if_pos rfl]; rfl⟩
        rw [hget] at h
        split at h
        · cases h
        · exact h
      obtain ⟨a1, a2, a3⟩ := ih (t / (Region.ready .any ops listed).length) _ hs' (by omega)
      have hl : Region.linearise.go .any ops (fuel + 1) t listed [] = i :: Region.linearise.go .any ops fuel (t / (Region.ready .any ops listed).length) (listed.setIfInBounds i true) [] := by
        rw [hgo, hi]
        show Region.linearise.go .any ops fuel _ _ [i] = _
        rw [linearise_go_acc]; rfl
      rw [hl]
      refine ⟨fun j => ?_, List.nodup_cons.2 ⟨fun h => ?_, a2⟩, fun pre j post e m hm => ?_⟩
      · rw [List.mem_cons, a1, hget]
        constructor
        · rintro (rfl | ⟨h1, h2⟩)
          · exact ⟨r1, r2⟩
          · split at h2
            · cases h2
            · exact ⟨h1, h2⟩
        · rintro ⟨h1, h2⟩
          by_cases c : j = i
          · exact .inl c
          · exact .inr ⟨h1, by rw [if_neg c]; exact h2⟩
      · have := (a1 i).1 h
        rw [hget, if_pos rfl] at this
        cases this.2
      · cases pre with
        | nil =>
          rw [List.nil_append] at e
          cases e
          exact .inl (r3 m hm)
        | cons p pre =>
          rw [List.cons_append] at e
          injection e with e1 e2
          subst e1
          rcases a3 pre j post e2 m hm with h | h
          · rw [hget] at h
            split at h
            · rename_i c; exact .inr (by simp [c])
            · exact .inl h
          · exact .inr (by simp [h])

section
variable {X : Cx} {ty : Nat → Option D.Ty} {ts : List (Nat × TE)} {n : Nat}
/-- A region begins. -/
theorem reg_begin {ps : List D.PS} (h : D.planOf ty X.ms ts X.P.globals.size n ops = some ps) (t : Nat) : Reg X ty ts n ops 0 0 ps (Region.linearise .any ops t) := by
  unfold D.planOf at h
  simp only at h
  split at h
  · rename_i hc
    rw [Bool.and_eq_true] at hc
    obtain ⟨he, hssa⟩ := hc
    have hun : (unl ops (Array.replicate ops.size false)).length ≤ ops.size := by
      unfold unl
      exact Nat.le_trans (List.length_filter_le _ _) (by simp)
    obtain ⟨a1, a2, a3⟩ := lin_ok he ops.size t (Array.replicate ops.size false) (by simp) hun
    have hno : ∀ j, j < ops.size → (Array.replicate ops.size false).getD j true = false := fun j hj => by simp [hj]
    have hno' : ∀ j, (Array.replicate ops.size false).getD j false = false := fun j => by
      rw [Array.getD_eq_getD_getElem?]
      cases c : (Array.replicate ops.size false)[j]? with
      | none => rfl
      | some b => obtain ⟨h1, h2⟩ := Array.getElem?_eq_some_iff.1 c; simpa using h2.symm
    have hz : ∀ j, (0 : Nat).testBit j = true → False := fun j h => by simp at h
    have hall : ∀ i, i < ops.size → i ∈ Region.linearise .any ops t := fun i hi => (a1 i).2 ⟨hi, hno i hi⟩
    refine ⟨he, hssa, ⟨_, h⟩, fun i hi => ((a1 i).1 hi).1, a2, fun pre i post e j hj hm => ?_, fun i h1 h2 => absurd (hall i h1) h2, fun i o _ h => (hz i h).elim, fun i _ => by simp, fun i h => (hz i h).elim, fun i j h => (hz i h).elim, fun i j h1 h2 => absurd (hall i h1) h2⟩
    have := a3 pre i post e j hj
    rw [hno' j] at this
    have hp := this.resolve_left (by simp)
    have hnd : (pre ++ i :: post).Nodup := by
      have := a2
      rw [show Region.linearise.go .any ops ops.size t (Array.replicate ops.size false) [] = pre ++ i :: post from e] at this
      exact this
    exact (List.nodup_append.1 hnd).2.2 j hp j hm rfl
  · cases h
end
end PH.R
/-
  The reckoner: what was done ahead would be done again.
-/
namespace PH.R
open Go Go.RowKit
variable {X : Cx} {t t' : TV} {h h' : H}
open Classical in
theorem nq {d : D.Op} {f : Qo} (hs : sOp d = .q f) {K : V → Bool} (q : f t h K = true) : ∃ v, K v = true ∧ ∀ t' h', agree d.uses t t' → H.le h h' → ∀ k, k v = true → f t' h' k = true := by
  obtain ⟨v, h1, h2⟩ := na_q hs (fun _ _ => rfl) (H.le_refl h) K q
  refine ⟨v, h1, fun t' h' ha hl k hk => ?_⟩
  obtain ⟨u, h3, h4⟩ := na_q hs ha hl (fun u => decide (u = v)) (h2 _ (by simp))
  have : u = v := by simpa using h3
  subst this
  exact h4 k hk
theorem mk_id {d : D.Op} {f : Ao} (hs : sOp d = .a f) {K : B → (Pa → V) → Bool} (q : f t K = true) : ∃ x mk, K x mk = true ∧ ∀ b, idOf (mk b) = some b := by
  cases d <;> simp only [sOp] at hs <;> (try (cases hs; done))
  case new el z => cases hs; exact ⟨_, _, q, fun _ => rfl⟩
  case box el n x => cases hs; obtain ⟨_, q⟩ := ok_true.1 q; exact ⟨_, _, q, fun _ => rfl⟩
  case bslice el sz len z ps =>
    cases hs
    obtain ⟨_, q⟩ := ok_true.1 q
    obtain ⟨l, h1, _⟩ := NaR.fillP (ps := ps) (t := t) (t' := t) (fun _ _ => rfl) (repCells z len) _ q
    exact ⟨_, _, h1, fun _ => rfl⟩
  case load n a => cases n <;> cases hs
  case fld o n a => cases n <;> cases hs
  case arith op x y => cases op <;> cases hs
  case shift op x y => cases op <;> cases hs
  case str op x y => cases op <;> cases hs
  case un op x => cases op <;> simp only [sOp] at hs <;> cases hs
  case mm mx l => cases l <;> cases hs
  case cvSB el x => cases hs; obtain ⟨_, _, _, q⟩ := asS_true q; exact ⟨_, _, q, fun _ => rfl⟩
  case cvSR el x => cases hs; obtain ⟨_, _, _, q⟩ := asS_true q; obtain ⟨_, q⟩ := ok_true.1 q; exact ⟨_, _, q, fun _ => rfl⟩
  case mkMap => cases hs; exact ⟨_, _, q, fun _ => rfl⟩
  case mkSl el sz b z l c =>
    cases hs
    obtain ⟨_, _, _, q⟩ := asN_true q
    obtain ⟨_, _, _, q⟩ := asN_true q
    obtain ⟨_, q⟩ := ok_true.1 q
    exact ⟨_, _, q, fun _ => rfl⟩
  case mkBy el l c =>
    cases hs
    obtain ⟨_, _, _, q⟩ := asN_true q
    obtain ⟨_, _, _, q⟩ := asN_true q
    obtain ⟨_, q⟩ := ok_true.1 q
    exact ⟨_, _, q, fun _ => rfl⟩
open Classical in
theorem nA {d : D.Op} {f : Ao} (hs : sOp d = .a f) {K : B → (Pa → V) → Bool} (q : f t K = true) : ∃ x mk, K x mk = true ∧ (∀ b, idOf (mk b) = some b) ∧ ∀ t', agree d.uses t t' → ∀ k, k x mk = true → f t' k = true := by
  obtain ⟨⟨x, mk⟩, h1, h2⟩ := na_a hs (t := t) (t' := t) (fun _ _ => rfl) (fun v => K v.1 v.2) q
  have hself : f t (fun a b => decide (a = x ∧ b = mk)) = true := h2 (fun v => decide (v.1 = x ∧ v.2 = mk)) (by simp)
  refine ⟨x, mk, h1, ?_, fun t' ha k hk => ?_⟩
  · obtain ⟨x', mk', h3, h4⟩ := mk_id hs hself
    simp only [decide_eq_true_eq] at h3
    rw [← h3.2]; exact h4
  · obtain ⟨⟨x', mk'⟩, h3, h4⟩ := na_a hs ha (fun v => decide (v.1 = x ∧ v.2 = mk)) hself
    simp only [decide_eq_true_eq] at h3
    obtain ⟨rfl, rfl⟩ := h3
    exact h4 (fun v => k v.1 v.2) hk

/-! Values that are the same -/
theorem vEq_true (x : V) : ∀ (y : V), vEq x y = true → x = y := by
  refine V.rec (motive_1 := fun x => ∀ y, vEq x y = true → x = y) (motive_2 := fun l => ∀ m, vsEq l m = true → l = m) ?_ ?_ ?_ ?_ ?_ ?_ ?_ ?_ ?_ ?_ ?_ ?_ ?_ ?_ ?_ ?_ ?_ ?_ ?_ x
  · intro k n y h
    cases y <;> first | (cases h; done) | skip
    obtain ⟨h1, h2⟩ := (Bool.and_eq_true ..).mp h
    rw [ikEq_eq h1]
    rw [eqI_eq] at h2
    rw [eq_of_beq h2]
  · intro b o y h
    cases y <;> first | (cases h; done) | skip
    obtain ⟨h1, h2⟩ := (Bool.and_eq_true ..).mp h
    rw [Pa.beq_eq.1 h1, Nat.eq_of_beq_eq_true h2]
  · intro b y h
    cases y <;> first | (cases h; done) | skip
    rw [eq_of_beq h]
  · intro l n y h
    cases y <;> first | (cases h; done) | skip
    obtain ⟨h1, h2⟩ := (Bool.and_eq_true ..).mp h
    rw [Nat.eq_of_beq_eq_true h1, Nat.eq_of_beq_eq_true h2]
  · intro b o l c y h
    cases y <;> first | (cases c <;> cases h; done) | skip
    rename_i b' o' l' c'
    cases c <;> cases c' <;> first | (cases h; done) | skip
    · rename_i n n'
      have h : (b.beq b' && Nat.beq o o' && Nat.beq l l' && Nat.beq n n') = true := h
      simp only [Bool.and_eq_true] at h
      obtain ⟨⟨⟨h1, h2⟩, h3⟩, h4⟩ := h
      rw [Pa.beq_eq.1 h1, Nat.eq_of_beq_eq_true h2, Nat.eq_of_beq_eq_true h3, Nat.eq_of_beq_eq_true h4]
    · rename_i n m n' m'
      have h : (b.beq b' && Nat.beq o o' && Nat.beq l l' && Nat.beq n n' && Nat.beq m m') = true := h
      simp only [Bool.and_eq_true] at h
      obtain ⟨⟨⟨⟨h1, h2⟩, h3⟩, h4⟩, h5⟩ := h
      rw [Pa.beq_eq.1 h1, Nat.eq_of_beq_eq_true h2, Nat.eq_of_beq_eq_true h3, Nat.eq_of_beq_eq_true h4, Nat.eq_of_beq_eq_true h5]
  · intro l ih y h
    cases y <;> first | (cases h; done) | skip
    rw [ih _ h]
  · intro l ih y h
    cases y <;> first | (cases h; done) | skip
    rw [ih _ h]
  · intro y h
    cases y <;> first | (cases h; done) | rfl
  · intro y h
    cases y <;> first | (cases h; done) | rfl
  · intro y h
    cases y <;> first | (cases h; done) | rfl
  · intro y h
    cases y <;> first | (cases h; done) | rfl
  · intro y h
    cases y <;> first | (cases h; done) | rfl
  · intro r y h
    cases y <;> first | (cases h; done) | skip
    rw [Pa.beq_eq.1 h]
  · intro f a c ia ic y h
    cases y <;> first | (cases h; done) | skip
    rename_i f' a' c'
    have h : (Nat.beq f f' && vsEq a a' && vsEq c c') = true := h
    simp only [Bool.and_eq_true] at h
    obtain ⟨⟨h1, h2⟩, h3⟩ := h
    rw [Nat.eq_of_beq_eq_true h1, ia a' h2, ic c' h3]
  · intro n tb a _ y h
    cases y <;> cases h
  · intro l y h
    cases y <;> cases h
  · intro t v iv y h
    cases y <;> first | (cases h; done) | skip
    rename_i t' v'
    obtain ⟨h1, h2⟩ := (Bool.and_eq_true ..).mp (show (Nat.beq t t' && vEq v v') = true from h)
    rw [Nat.eq_of_beq_eq_true h1, iv v' h2]
  · intro m h
    cases m <;> first | rfl | cases h
  · intro x l ix il m h
    cases m with
    | nil => cases h
    | cons y m =>
      obtain ⟨h1, h2⟩ := (Bool.and_eq_true ..).mp (show (vEq x y && vsEq l m) = true from h)
      rw [ix y h1, il m h2]
theorem vsEq_true : ∀ (l m : List V), vsEq l m = true → l = m
  | [], [], _ => rfl
  | x :: l, y :: m, h => by
    obtain ⟨h1, h2⟩ := (Bool.and_eq_true ..).mp (show (vEq x y && vsEq l m) = true from h)
    rw [vEq_true x y h1, vsEq_true l m h2]
  | [], _ :: _, h => by cases h
  | _ :: _, [], h => by cases h
theorem objEq_true {x y : B} (h : objEq x (some y) = true) : x = y := by
  cases x with
  | row r fz sz el =>
    cases fz with
    | succ _ => cases y <;> first | (cases h; done) | (rename_i f _ _; cases f <;> cases h)
    | zero =>
      cases y with
      | row r' fz' sz' el' =>
        cases fz' with
        | succ _ => cases h
        | zero =>
          have h : (rowEq r r' && Nat.beq sz sz' && Nat.beq el el') = true := h
          simp only [Bool.and_eq_true] at h
          obtain ⟨⟨h1, h2⟩, h3⟩ := h
          have hr : r = r' := by
            cases r <;> cases r' <;> first | (cases h1; done) | skip
            · rw [vsEq_true _ _ h1]
            · obtain ⟨a, b⟩ := (Bool.and_eq_true ..).mp h1
              rw [Nat.eq_of_beq_eq_true a, Nat.eq_of_beq_eq_true b]
          rw [hr, Nat.eq_of_beq_eq_true h2, Nat.eq_of_beq_eq_true h3]
      | _ => cases h
  | map es c =>
    cases es with
    | cons _ _ => cases y <;> cases h
    | nil =>
      cases c with
      | succ _ => cases y <;> cases h
      | zero =>
        cases y with
        | map es' c' =>
          cases es' with
          | cons _ _ => cases h
          | nil => cases c' with
            | zero => rfl
            | succ _ => cases h
        | _ => cases h
  | _ => cases y <;> cases h
end PH.R
