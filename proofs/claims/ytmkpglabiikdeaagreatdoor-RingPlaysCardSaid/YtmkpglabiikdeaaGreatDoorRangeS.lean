/-
  A range over a function whose iterator reads what the caller's rounds write: the shared part (Sh) stands beside what the caller alone owns. Generic, no program in sight.
-/
import Derived.Test.YtmkpglabiikdeaaGreatDoorRange
namespace PH
open Go Go.RowKit

/-- THE ITERATOR's WORD, with a shared part. -/
def SeqSH {α : Type} (P : Program) (gf : Nat) (lb : Array Value) (encs : α → Array Value) (Sh : List α → HP) (M M' : HP) (S Sp : List α → Prop) (Ok : List α → α → Prop) : Prop :=
  ∀ (l n : Nat) (E : World) (J Jx : List α → HP),
    (∀ (m : Nat) (pre : List α) (x : α) (W : World) (L : List HP), Ok pre x → Sat E W (Sh pre :: J pre :: L) →
      YieldAt Fence.wide m P l (encs x) W fun e W' => (e = .returned (.bool true) ∧ Sat E W' (Sh (pre ++ [x]) :: J (pre ++ [x]) :: L)) ∨ (e = .returned (.bool false) ∧ Sat E W' (Jx (pre ++ [x]) :: L))) →
    ∀ (W : World) (L : List HP), Sat E W (Sh [] :: J [] :: M :: L) →
      CallsIn Fence.wide n P gf (#[.func (.yield l) #[] #[]] ++ lb) W fun e W' => (∃ v, e = .returned v) ∧ ((∃ ys, S ys ∧ Sat E W' (Sh ys :: J ys :: M' :: L)) ∨ (∃ pre, Sp pre ∧ Sat E W' (Jx pre :: M' :: L)))

/-- THE CALLER's LAW. -/
theorem wpIn_rangeS {α : Type} {n : Nat} {P : Program} {g : Operand} {ps : Array Tmp} {assign body : Code} {Q : Exit → Act → World → Prop} {a : Act} {E w : World} {L : List HP}
    {gf : Nat} {lb : Array Value} (hg : a.eval g = .func (.func gf) #[] lb) (eg : ∀ args w, (callFunc gf args).run P w = .ok (.enter gf args) w)
    {encs : α → Array Value} {Sh : List α → HP} {M M' : HP} {S Sp : List α → Prop} {Ok : List α → α → Prop} (hseq : SeqSH P gf lb encs Sh M M' S Sp Ok) (hps : ∀ x, (encs x).size = ps.size)
    (I : List α → HP) (Ix : Code → List α → HP) (Ib : List α → α → Act → HP) (h0 : Sat E w (seps [Sh [], I []] :: M :: L))
    (hassign : ∀ (l m : Nat) (pre : List α) (x : α) (W : World) (L : List HP) (K : Act → World → Prop), Sat E W (seps [Sh pre, I pre] :: L) → (∀ a' W', Sat E W' (Ib pre x a' :: L) → K a' W') →
      assign.wpIn (Fence.wide.inRound l) m P (Exit.then K (fun _ _ _ => False)) { tmps := (ps.zip (encs x)).foldl (fun t (p, v) => t.setIfInBounds p v) a.tmps, defers := [] } W)
    (hbody : ∀ (l m : Nat) (pre : List α) (x : α) (a' : Act) (W : World) (L : List HP), Ok pre x → Sat E W (Ib pre x a' :: L) → body.wpIn (Fence.wide.inRound l) m P (postSL E (fun ys => seps [Sh ys, I ys]) Ix (pre ++ [x]) L) a' W)
    (hdone : ∀ (D : Nat) (xs : List α) (W : World), S xs → Sat E W (seps [Sh xs, I xs] :: M' :: pt D (.deferred (some [])) :: L) → Q .normal { a with defers := { target := .collected D, args := #[] } :: a.defers } W)
    (hstop : ∀ (D : Nat) (c : Code) (pre : List α) (W : World), Sp pre → Sat E W (Ix c pre :: M' :: pt D (.deferred (some [])) :: L) → c.wpIn Fence.wide n P Q { a with defers := { target := .collected D, args := #[] } :: a.defers } W) :
    (Code.rangeFunc g ps assign body).wpIn Fence.wide n P Q a w := by
  refine wpIn_rangeFunc ?_
  intro fn hfn
  obtain ⟨rec, hrec⟩ : ∃ rec : LoopState → Option Code → Loop, rec = fun st pe => { state := st, pending := pe, fn, tmps := a.tmps, params := ps, assign, body, defers := w.heap.size } := ⟨_, rfl⟩
  have hs1 : Sat E ((w.alloc (.deferred (some []))).alloc (.loop (rec .ready none))) (pt (w.heap.size + 1) (.loop (rec .ready none)) :: pt w.heap.size (.deferred (some [])) :: seps [Sh [], I []] :: M :: L) := by
    have h2 := (h0.alloc (.deferred (some []))).alloc (.loop (rec .ready none))
    rwa [World.size_alloc] at h2
  obtain ⟨W1, hW1⟩ : ∃ W1, (w.alloc (.deferred (some []))).alloc (.loop (rec .ready none)) = W1 := ⟨_, rfl⟩
  rw [hW1] at hs1
  refine ⟨w.heap.size + 1, [{ target := .collected w.heap.size, args := #[] }], W1, { target := .fn (.func gf) lb, args := #[.func (.yield (w.heap.size + 1)) #[] #[]] }, W1, gf,
    #[.func (.yield (w.heap.size + 1)) #[] #[]] ++ lb, W1, ?_, ?_, ?_, ?_, fun h => by simp [Fence.wide] at h, ?_⟩
  · rw [← hW1, hrec]; exact run_enterLoop_outer _ _ _ _ _
  · simp only [resolve, hg]
    simp [go_sem]
  · intro f' hf'; trivial
  · simp [invoke, go_sem, eg]
  · have hcall := hseq (w.heap.size + 1) (n - 1) E
      (fun pre => seps [pt (w.heap.size + 1) (.loop (rec .ready none)), I pre])
      (fun pre => ex fun c => seps [pt (w.heap.size + 1) (.loop (rec .done (some c))), Ix c pre]) ?_ W1 (pt w.heap.size (.deferred (some [])) :: L) ?_
    · refine hcall.mono ?_
      rintro e W2 ⟨⟨v, rfl⟩, (⟨xs, hS, hx⟩ | ⟨pre, hSp, hx⟩)⟩
      · have hx1 : Sat E W2 (pt (w.heap.size + 1) (.loop (rec .ready none)) :: seps [Sh xs, I xs] :: M' :: pt w.heap.size (.deferred (some [])) :: L) := (hx.p1.flat.p2.p2.p1.pack [_, _]).p1
        have h3 := run_endLoop (P := P) hx1.at (by rw [hrec]; simp)
        rw [show (rec .ready none).pending = none by rw [hrec]] at h3
        exact ⟨none, _, h3, hdone _ xs _ hS (hx1.putObj _).tail⟩
      · obtain ⟨c, hx⟩ := hx.ex
        have hx1 := hx.flat
        have h3 := run_endLoop (P := P) hx1.at (by rw [hrec]; simp)
        rw [show (rec .done (some c)).pending = some c by rw [hrec]] at h3
        exact ⟨some c, _, h3, hstop _ c pre _ hSp (hx1.putObj _).tail⟩
    · -- one round
      intro m pre x W L' hlen hx
      have hx1 : Sat E W (pt (w.heap.size + 1) (.loop (rec .ready none)) :: seps [Sh pre, I pre] :: L') := (hx.p1.flat.p2.p2.p1.pack [_, _]).p1
      have hy := run_yield (P := P) (args := encs x) hx1.at (by rw [hrec]; exact hps x)
      have e1 : (rec .ready none).fn = fn ∧ (rec .ready none).tmps = a.tmps ∧ (rec .ready none).params = ps ∧ (rec .ready none).assign = assign ∧ (rec .ready none).body = body ∧ (rec .ready none).state = .ready := by rw [hrec]; exact ⟨rfl, rfl, rfl, rfl, rfl, rfl⟩
      obtain ⟨e2, e3, e4, e5, e6, e7⟩ := e1
      rw [e2, e3, e4, e5, e6] at hy
      refine ⟨fn, _, assign, body, hy, roundIn_of_wpIn trivial (hassign _ m pre x W (pt (w.heap.size + 1) (.loop (rec .ready none)) :: L') _ hx1.p1 ?_)⟩
      intro a' Wa ha
      have ha1 := ha.p1
      refine ⟨_, run_beginRound ha1.at e7, ?_⟩
      have hb := hbody (w.heap.size + 1) m pre x a' _ (pt (w.heap.size + 1) (.loop { rec .ready none with state := .busy }) :: L') hlen ((ha1.putObj (.loop { rec .ready none with state := .busy })).p1)
      refine wpIn_mono hb ?_
      have fin : ∀ (jump : Option Code) (A : HP) (W3 : World), Sat E W3 (A :: pt (w.heap.size + 1) (.loop { rec .ready none with state := .busy }) :: L') →
          ∃ W4, (Instr.endRound (w.heap.size + 1) jump).run P W3 = .ok (.bool jump.isNone) W4 ∧ Sat E W4 (pt (w.heap.size + 1) (.loop (rec (if jump.isNone then .ready else .done) jump)) :: A :: L') := fun jump A W3 h3 => by
        have h4 := h3.p1
        have := run_endRound (P := P) jump h4.at
        refine ⟨_, this, ?_⟩
        have h5 := h4.putObj (.loop (rec (if jump.isNone then .ready else .done) jump))
        rw [hrec] at h5 ⊢
        exact h5
      rintro e a3 W3 hp
      cases e with
      | normal =>
        obtain ⟨W4, h4, h5⟩ := fin none _ W3 hp
        exact ⟨_, _, h4, .inl ⟨rfl, (h5.p1.flat.p2.p2.p1.pack [_, _]).p1⟩⟩
      | ret =>
        obtain ⟨W4, h4, h5⟩ := fin (some .ret) _ W3 hp
        exact ⟨_, _, h4, .inr ⟨rfl, Sat.mkEx Code.ret (h5.pack [_, _])⟩⟩
      | exit id =>
        obtain ⟨W4, h4, h5⟩ := fin (some (.exit id)) _ W3 hp
        exact ⟨_, _, h4, .inr ⟨rfl, Sat.mkEx (Code.exit id) (h5.pack [_, _])⟩⟩
      | goto t =>
        obtain ⟨W4, h4, h5⟩ := fin (some (.goto t)) _ W3 hp
        exact ⟨_, _, h4, .inr ⟨rfl, Sat.mkEx (Code.goto t) (h5.pack [_, _])⟩⟩
      | panic ch => exact hp.elim
      | outgrown => exact hp.elim
    · exact ((hs1.p2.flat.p2.p2.p1.pack [_, _]).p1).p3.p2.p2

/-- The same, where the round's variables are laid by a plain change of the temporaries. -/
theorem wpIn_rangeP {α : Type} {n : Nat} {P : Program} {g : Operand} {ps : Array Tmp} {assign body : Code} {Q : Exit → Act → World → Prop} {a : Act} {E w : World} {L : List HP}
    {gf : Nat} {lb : Array Value} (hg : a.eval g = .func (.func gf) #[] lb) (eg : ∀ args w, (callFunc gf args).run P w = .ok (.enter gf args) w)
    {encs : α → Array Value} {Sh : List α → HP} {M M' : HP} {S Sp : List α → Prop} {Ok : List α → α → Prop} (hseq : SeqSH P gf lb encs Sh M M' S Sp Ok) (hps : ∀ x, (encs x).size = ps.size)
    (I : List α → HP) (Ix : Code → List α → HP) (post : Array Value → α → Array Value) (h0 : Sat E w (seps [Sh [], I []] :: M :: L))
    (hassign : ∀ (l m : Nat) (pre : List α) (x : α) (W : World) (L : List HP) (K : Act → World → Prop), Sat E W (seps [Sh pre, I pre] :: L) → (∀ W', Sat E W' (seps [Sh pre, I pre] :: L) → K { tmps := post a.tmps x, defers := [] } W') →
      assign.wpIn (Fence.wide.inRound l) m P (Exit.then K (fun _ _ _ => False)) { tmps := (ps.zip (encs x)).foldl (fun t (p, v) => t.setIfInBounds p v) a.tmps, defers := [] } W)
    (hbody : ∀ (l m : Nat) (pre : List α) (x : α) (W : World) (L : List HP), Ok pre x → Sat E W (seps [Sh pre, I pre] :: L) → body.wpIn (Fence.wide.inRound l) m P (postSL E (fun ys => seps [Sh ys, I ys]) Ix (pre ++ [x]) L) { tmps := post a.tmps x, defers := [] } W)
    (hdone : ∀ (D : Nat) (xs : List α) (W : World), S xs → Sat E W (seps [Sh xs, I xs] :: M' :: pt D (.deferred (some [])) :: L) → Q .normal { a with defers := { target := .collected D, args := #[] } :: a.defers } W)
    (hstop : ∀ (D : Nat) (c : Code) (pre : List α) (W : World), Sp pre → Sat E W (Ix c pre :: M' :: pt D (.deferred (some [])) :: L) → c.wpIn Fence.wide n P Q { a with defers := { target := .collected D, args := #[] } :: a.defers } W) :
    (Code.rangeFunc g ps assign body).wpIn Fence.wide n P Q a w :=
  wpIn_rangeS hg eg hseq hps I Ix (fun pre x a' => fun h => a' = { tmps := post a.tmps x, defers := [] } ∧ seps [Sh pre, I pre] h) h0
    (fun l m pre x W L K hx hK => hassign l m pre x W L K hx fun W' h => hK _ W' (h.head fun _ hh => ⟨rfl, hh⟩))
    (fun l m pre x a' W L hlen hx => by
      have h1 : a' = { tmps := post a.tmps x, defers := [] } := hx.says fun _ h _ => h.1
      subst h1
      exact hbody l m pre x W L hlen (hx.head fun _ h => h.2))
    hdone hstop
end PH
