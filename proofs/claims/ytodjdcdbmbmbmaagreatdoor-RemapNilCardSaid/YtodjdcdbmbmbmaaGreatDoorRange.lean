/-
  A range over a function, in the words of ownership: the iterator's contract, the caller's law. Generic, no program in sight.
-/
import Derived.RangeFuncNested
import Derived.RangeFuncBound
import Derived.OwnWalkIn
import Derived.TacticsInMore
import Derived.OrdersIn
import Derived.Test.YtodjdcdbmbmbmaaGreatDoorSat
import Derived.Test.YtodjdcdbmbmbmaaGreatDoorPlan
namespace PH
open Go Go.RowKit

theorem Sat.putObj {E w : World} {b : Nat} {o : Obj} {L : List HP} (x : Sat E w (pt b o :: L)) (o' : Obj) : Sat E (w.putObj b o') (pt b o' :: L) :=
  x.upd rfl rfl rfl (World.putObj_heap_same x.lt) fun _ _ hk h => (World.putObj_heap_other hk).trans h

/-- THE ITERATOR's WORD: whatever the caller owns between two rounds (J), and whatever else there is (L), the rounds come as told; M: what the iterator itself owns; M': what of it is left. -/
def SeqSL {α : Type} (P : Program) (gf : Nat) (lb : Array Value) (encs : α → Array Value) (M M' : HP) (S Sp : List α → Prop) (N : Nat) : Prop :=
  ∀ (l n : Nat) (E : World) (J Jx : List α → HP),
    (∀ (m : Nat) (pre : List α) (x : α) (W : World) (L : List HP), pre.length < N → Sat E W (J pre :: L) →
      YieldAt Fence.wide m P l (encs x) W fun e W' => (e = .returned (.bool true) ∧ Sat E W' (J (pre ++ [x]) :: L)) ∨ (e = .returned (.bool false) ∧ Sat E W' (Jx (pre ++ [x]) :: L))) →
    ∀ (W : World) (L : List HP), Sat E W (J [] :: M :: L) →
      CallsIn Fence.wide n P gf (#[.func (.yield l) #[] #[]] ++ lb) W fun e W' => (∃ v, e = .returned v) ∧ ((∃ ys, S ys ∧ Sat E W' (J ys :: M' :: L)) ∨ (∃ pre, Sp pre ∧ Sat E W' (Jx pre :: M' :: L)))

/-- How a round's body may be left. -/
def postSL {α : Type} (E : World) (I : List α → HP) (Ix : Code → List α → HP) (xs : List α) (L : List HP) : Exit → Act → World → Prop
  | .normal, _, W => Sat E W (I xs :: L)
  | .ret, _, W => Sat E W (Ix .ret xs :: L)
  | .exit id, _, W => Sat E W (Ix (.exit id) xs :: L)
  | .goto t, _, W => Sat E W (Ix (.goto t) xs :: L)
  | .panic _, _, _ => False
  | .outgrown, _, _ => False

/-- THE CALLER's LAW. -/
theorem wpIn_range {α : Type} {n : Nat} {P : Program} {g : Operand} {ps : Array Tmp} {assign body : Code} {Q : Exit → Act → World → Prop} {a : Act} {E w : World} {L : List HP}
    {gf : Nat} {lb : Array Value} (hg : a.eval g = .func (.func gf) #[] lb) (eg : ∀ args w, (callFunc gf args).run P w = .ok (.enter gf args) w)
    {encs : α → Array Value} {M M' : HP} {S Sp : List α → Prop} {N : Nat} (hseq : SeqSL P gf lb encs M M' S Sp N) (hps : ∀ x, (encs x).size = ps.size)
    (I : List α → HP) (Ix : Code → List α → HP) (Ib : List α → α → Act → HP) (h0 : Sat E w (I [] :: M :: L))
    (hassign : ∀ (l m : Nat) (pre : List α) (x : α) (W : World) (L : List HP) (K : Act → World → Prop), Sat E W (I pre :: L) → (∀ a' W', Sat E W' (Ib pre x a' :: L) → K a' W') →
      assign.wpIn (Fence.wide.inRound l) m P (Exit.then K (fun _ _ _ => False)) { tmps := (ps.zip (encs x)).foldl (fun t (p, v) => t.setIfInBounds p v) a.tmps, defers := [] } W)
    (hbody : ∀ (l m : Nat) (pre : List α) (x : α) (a' : Act) (W : World) (L : List HP), pre.length < N → Sat E W (Ib pre x a' :: L) → body.wpIn (Fence.wide.inRound l) m P (postSL E I Ix (pre ++ [x]) L) a' W)
    (hdone : ∀ (D : Nat) (xs : List α) (W : World), S xs → Sat E W (I xs :: M' :: pt D (.deferred (some [])) :: L) → Q .normal { a with defers := { target := .collected D, args := #[] } :: a.defers } W)
    (hstop : ∀ (D : Nat) (c : Code) (pre : List α) (W : World), Sp pre → Sat E W (Ix c pre :: M' :: pt D (.deferred (some [])) :: L) → c.wpIn Fence.wide n P Q { a with defers := { target := .collected D, args := #[] } :: a.defers } W) :
    (Code.rangeFunc g ps assign body).wpIn Fence.wide n P Q a w := by
  refine wpIn_rangeFunc ?_
  intro fn hfn
  obtain ⟨rec, hrec⟩ : ∃ rec : LoopState → Option Code → Loop, rec = fun st pe => { state := st, pending := pe, fn, tmps := a.tmps, params := ps, assign, body, defers := w.heap.size } := ⟨_, rfl⟩
  have hs1 : Sat E ((w.alloc (.deferred (some []))).alloc (.loop (rec .ready none))) (pt (w.heap.size + 1) (.loop (rec .ready none)) :: pt w.heap.size (.deferred (some [])) :: I [] :: M :: L) := by
    have h2 := (h0.alloc (.deferred (some []))).alloc (.loop (rec .ready none))
    rwa [World.size_alloc] at h2
  obtain ⟨W1, hW1⟩ : ∃ W1, (w.alloc (.deferred (some []))).alloc (.loop (rec .ready none)) = W1 := ⟨_, rfl⟩
  rw [hW1] at hs1
  refine ⟨w.heap.size + 1, [{ target := .collected w.heap.size, args := #[] }], W1, { target := .fn (.func gf) lb, args := #[.func (.yield (w.heap.size + 1)) #[] #[]] }, W1, gf,
    #[.func (.yield (w.heap.size + 1)) #[] #[]] ++ lb, W1, ?_, ?_, ?_, ?_, fun h => by simp [Fence.wide] at h, ?_⟩
  · rw [← hW1, hrec]; exact run_enterLoop_outer _ _ _ _ _
  · simp only [resolve, hg]
    simp [go_sem]
  · intro f' hf'; trivial
  · simp [invoke, go_sem, eg]
  · have hcall := hseq (w.heap.size + 1) (n - 1) E
      (fun pre => seps [pt (w.heap.size + 1) (.loop (rec .ready none)), I pre])
      (fun pre => ex fun c => seps [pt (w.heap.size + 1) (.loop (rec .done (some c))), Ix c pre]) ?_ W1 (pt w.heap.size (.deferred (some [])) :: L) ?_
    · refine hcall.mono ?_
      rintro e W2 ⟨⟨v, rfl⟩, (⟨xs, hS, hx⟩ | ⟨pre, hSp, hx⟩)⟩
      · have hx1 := hx.flat
        have h3 := run_endLoop (P := P) hx1.at (by rw [hrec]; simp)
        rw [show (rec .ready none).pending = none by rw [hrec]] at h3
        exact ⟨none, _, h3, hdone _ xs _ hS (hx1.putObj _).tail⟩
      · obtain ⟨c, hx⟩ := hx.ex
        have hx1 := hx.flat
        have h3 := run_endLoop (P := P) hx1.at (by rw [hrec]; simp)
        rw [show (rec .done (some c)).pending = some c by rw [hrec]] at h3
        exact ⟨some c, _, h3, hstop _ c pre _ hSp (hx1.putObj _).tail⟩
    · -- one round
      intro m pre x W L' hlen hx
      have hx1 := hx.flat
      have hy := run_yield (P := P) (args := encs x) hx1.at (by rw [hrec]; exact hps x)
      have e1 : (rec .ready none).fn = fn ∧ (rec .ready none).tmps = a.tmps ∧ (rec .ready none).params = ps ∧ (rec .ready none).assign = assign ∧ (rec .ready none).body = body ∧ (rec .ready none).state = .ready := by rw [hrec]; exact ⟨rfl, rfl, rfl, rfl, rfl, rfl⟩
      obtain ⟨e2, e3, e4, e5, e6, e7⟩ := e1
      rw [e2, e3, e4, e5, e6] at hy
      refine ⟨fn, _, assign, body, hy, roundIn_of_wpIn trivial (hassign _ m pre x W (pt (w.heap.size + 1) (.loop (rec .ready none)) :: L') _ hx1.p1 ?_)⟩
      intro a' Wa ha
      have ha1 := ha.p1
      refine ⟨_, run_beginRound ha1.at e7, ?_⟩
      have hb := hbody (w.heap.size + 1) m pre x a' _ (pt (w.heap.size + 1) (.loop { rec .ready none with state := .busy }) :: L') hlen ((ha1.putObj (.loop { rec .ready none with state := .busy })).p1)
      refine wpIn_mono hb ?_
      have fin : ∀ (jump : Option Code) (A : HP) (W3 : World), Sat E W3 (A :: pt (w.heap.size + 1) (.loop { rec .ready none with state := .busy }) :: L') →
          ∃ W4, (Instr.endRound (w.heap.size + 1) jump).run P W3 = .ok (.bool jump.isNone) W4 ∧ Sat E W4 (pt (w.heap.size + 1) (.loop (rec (if jump.isNone then .ready else .done) jump)) :: A :: L') := fun jump A W3 h3 => by
        have h4 := h3.p1
        have := run_endRound (P := P) jump h4.at
        refine ⟨_, this, ?_⟩
        have h5 := h4.putObj (.loop (rec (if jump.isNone then .ready else .done) jump))
        rw [hrec] at h5 ⊢
        exact h5
      rintro e a3 W3 hp
      cases e with
      | normal =>
        obtain ⟨W4, h4, h5⟩ := fin none _ W3 hp
        exact ⟨_, _, h4, .inl ⟨rfl, h5.pack [_, _]⟩⟩
      | ret =>
        obtain ⟨W4, h4, h5⟩ := fin (some .ret) _ W3 hp
        exact ⟨_, _, h4, .inr ⟨rfl, Sat.mkEx Code.ret (h5.pack [_, _])⟩⟩
      | exit id =>
        obtain ⟨W4, h4, h5⟩ := fin (some (.exit id)) _ W3 hp
        exact ⟨_, _, h4, .inr ⟨rfl, Sat.mkEx (Code.exit id) (h5.pack [_, _])⟩⟩
      | goto t =>
        obtain ⟨W4, h4, h5⟩ := fin (some (.goto t)) _ W3 hp
        exact ⟨_, _, h4, .inr ⟨rfl, Sat.mkEx (Code.goto t) (h5.pack [_, _])⟩⟩
      | panic ch => exact hp.elim
      | outgrown => exact hp.elim
    · exact hs1.p3.p3.p2.pack [_, _]

/-! A region that draws, within a round: from the law outside. -/
def noDefer (ops : Array Oper) : Bool := ops.all fun o => match o.op with | .defer _ => false | _ => true
theorem noDefer_spec {ops : Array Oper} (h : noDefer ops = true) {i : Nat} {o : Oper} (ho : ops[i]? = some o) : ∀ c, o.op ≠ .defer c := by
  intro c e
  have := Array.all_eq_true'.1 h o (Array.mem_of_getElem? ho)
  rw [e] at this
  cases this

section
variable {l n : Nat} {P : Program} {ops : Array Oper} {Q : Exit → Act → World → Prop}
theorem wpOpIn_of {i : Nat} {K K' : Act → World → Prop} {a : Act} {w : World} (hnd : noDefer ops = true) (hout : ¬ LetsOut Q) (hK : ∀ a w, K a w → K' a w)
    (h : wpOp P ops Q i K a w) : wpOpIn (Fence.wide.inRound l) n P ops Q i K' a w := by
  unfold wpOp at h
  unfold wpOpIn
  split
  · rename_i ho
    simp only [ho] at h
    exact hK _ _ h
  · rename_i o ho
    simp only [ho] at h
    split
    · rename_i hw
      simp only [hw, if_true] at h
      rcases h with h | ⟨_, h⟩
      · refine ⟨fun _ _ => trivial, ?_⟩
        show Oper.uponIn (Fence.wide.inRound l) n P o a K' Q ((o.semAt (some l) a.eval).run P w)
        rw [Oper.semAt_some l a.eval o (noDefer_spec hnd ho)]
        unfold Oper.wp at h
        generalize (execOp a.eval o).run P w = r at *
        cases r with
        | ok x w' =>
          cases x <;> simp only [Oper.upon] at h <;> simp only [Oper.uponIn]
          case value u => exact hK _ _ h
          case skip => exact hK _ _ h
          case defer d => exact hK _ _ h
          case enter f args =>
            refine ⟨fun h => by simp [Fence.wide, Fence.inRound] at h, (callsIn_wide.2 (h.mono fun e w'' he => ?_)).inRound l⟩
            cases e <;> first | exact hK _ _ he | exact he
          case row row args =>
            refine ⟨fun h => by simp [Fence.wide, Fence.inRound] at h, ?_⟩
            exact fun c cs _ => let ⟨v, w2, r, s⟩ := h c cs; ⟨v, w2, hK _ _ r, stepsIn_wide.2 s⟩
        | halt x w' => cases x <;> simp only [Oper.upon] at h <;> simp only [Oper.uponIn] <;> exact h
      · exact absurd h hout
    · rename_i hw
      simp only [hw, Bool.false_eq_true, if_false] at h
      exact ⟨fun _ _ => trivial, hK _ _ h⟩
theorem wpAnyIn_of (hnd : noDefer ops = true) (hout : ¬ LetsOut Q) : ∀ (fuel : Nat) (listed : Array Bool) (a : Act) (w : World), wpAny P .any ops Q fuel listed a w → wpAnyIn (Fence.wide.inRound l) n P .any ops Q fuel listed a w
  | 0, _, _, _, h => h
  | fuel + 1, _, _, _, h => ⟨h.1, fun i hi => wpOpIn_of hnd hout (fun a w => wpAnyIn_of hnd hout fuel _ a w) (h.2 i hi)⟩
/-- THE LAW of regions that draw, within a round. -/
theorem wpIn_region_planL {id : Nat} {a : Act} {w : World} {ol : List Oper} (plan : List (Nat × Bool)) (cs : Conds) (hm : P.follows .mixedOrders = true) (hnd : noDefer ol.toArray = true) (hout : ¬ LetsOut Q)
    (hB : (Region.noSelect ol.toArray && decide (plan.length = ol.length) && (List.range ol.length).all (fun j => plan.any fun x => x.1 == j) && planOk .any ol.toArray (cs.map (·.1)) plan (Array.replicate ol.length false)
      && plan.all fun x => decide (x.1 < ol.length)) = true)
    (hQ : ∀ c a d v w, Q (.panic c) (Act.put a d v) w → Q (.panic c) a w)
    (hU : live ol.length (planOps ol plan) cs w.drew) (h : wpPlanL P .any ol.toArray Q cs (Q .normal) (planOps ol plan) a w.drew) : (Code.region id ol.toArray true).wpIn (Fence.wide.inRound l) n P Q a w :=
  wpIn_region_any hm (wpAnyIn_of hnd hout _ _ _ _ (wpAny_region plan cs hB hQ hU h))
end
end PH
