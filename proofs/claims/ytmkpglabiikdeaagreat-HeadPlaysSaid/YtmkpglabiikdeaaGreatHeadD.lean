/-
  Heads on a disk: what is found, and what a Save leaves, wherever the disk dies. Plain laws, no program in sight.
-/
import Derived.Test.YtmkpglabiikdeaaGreatHeadP
namespace Go.Proofs.YtmkpglabiikdeaaGreat
open Go.RowKit PH

def noHd : Hd := ⟨0, 0, 0, 0, 0, 0, 0⟩
/-- The younger of a head and what bytes say. -/
def stepH (b : Hd) (o : Option Hd) : Hd := match o with
  | some h => if b.gen < h.gen then h else b
  | none => b
def bestH (D : Dk) (at_ : Int) : Hd := stepH (stepH noHd (getP (readV D at_))) (getP (readV D (at_ + 1)))
def findE (b : Hd) : Int := if b.gen = 0 then 32 else 0
/-- What Find answers: the head, the error. -/
def findR (D : Dk) (at_ : Int) : Hd × Int :=
  if thereE D at_ = 0 then (if thereE D (at_ + 1) = 0 then (bestH D at_, findE (bestH D at_)) else (noHd, thereE D (at_ + 1))) else (noHd, thereE D at_)
def withG (h : Hd) (g : Int) : Hd := { h with gen := g }
/-- What Save answers, of a head with its number; what it leaves. -/
def putH (D : Dk) (at_ : Int) (h : Hd) : Hd × Int × Dk :=
  if writeE D (at_ + h.gen % 2) (headB h) = 0 then
    (if barrierE (writeD D (at_ + h.gen % 2) (headB h)) = 0 then (h, 0, barrierD (writeD D (at_ + h.gen % 2) (headB h)))
     else (noHd, barrierE (writeD D (at_ + h.gen % 2) (headB h)), barrierD (writeD D (at_ + h.gen % 2) (headB h))))
  else (noHd, writeE D (at_ + h.gen % 2) (headB h), writeD D (at_ + h.gen % 2) (headB h))
def saveR (D : Dk) (at_ : Int) (h : Hd) : Hd × Int × Dk :=
  if (findR D at_).2 ≠ 0 ∧ (findR D at_).2 ≠ 32 then (noHd, (findR D at_).2, D)
  else if (findR D at_).1.gen = 9223372036854775807 then (noHd, 14, D)
  else if okHd (withG h ((findR D at_).1.gen + 1)) = true then putH D at_ (withG h ((findR D at_).1.gen + 1))
  else (noHd, 14, D)

theorem noHd_no : okHd noHd = false := by decide
theorem ok_gen {h : Hd} (k : okHd h = true) : 1 ≤ h.gen := by
  unfold okHd at k
  exact (of_decide_eq_true k).1

/-- Of a sector there is no head as young as this. -/
def Older (o : Option Hd) (h : Hd) : Prop := ∀ h', o = some h' → h'.gen < h.gen
/-- A disk of three sectors that lives, on which a head was found. -/
structure InvH (D : Dk) (was : Hd) (n : Nat) : Prop where
  kl : 2 ≤ D.kept.length
  sz : ∀ s ∈ D.kept, s.size = 128
  wl : D.wait = []
  fu : D.fuse = -1
  de : D.dead = false
  ok : OkD D
  wr : D.writes ≤ n
  ba : D.barriers ≤ n
  ge : was.gen ≤ n
  hd : (was = noHd ∧ ∀ i, i < 2 → getP (D.kept.getD i ByteArray.empty) = none) ∨
    (okHd was = true ∧ was.next ≤ 9223372036854775807 ∧ ∃ p : Nat, p < 2 ∧ was.gen % 2 = (p : Int) ∧ getP (D.kept.getD p ByteArray.empty) = some was ∧ Older (getP (D.kept.getD (1 - p) ByteArray.empty)) was)

theorem there3 {D : Dk} (h : 2 ≤ D.kept.length) (hd : D.dead = false) (i : Nat) (hi : i < 2) : thereE D i = 0 := by
  have ha : aliveE D = 0 := by
    unfold aliveE madeB
    rw [hd, decide_eq_true (by omega : 0 < D.kept.length)]
    rfl
  unfold thereE
  rw [if_pos ha, if_neg (by omega)]
theorem readV_kept {D : Dk} (h : D.wait = []) (i : Nat) : readV D i = D.kept.getD i ByteArray.empty := by
  unfold readV lastAt
  rw [h]
  rfl
theorem step_best {was : Hd} {x y : Option Hd} : (was = noHd ∧ x = none ∧ y = none) ∨ (okHd was = true ∧ ((x = some was ∧ Older y was) ∨ (y = some was ∧ Older x was))) → stepH (stepH noHd x) y = was := by
  rintro (⟨rfl, rfl, rfl⟩ | ⟨k, (⟨rfl, o⟩ | ⟨rfl, o⟩)⟩)
  · rfl
  · have := ok_gen k
    have e1 : stepH noHd (some was) = was := if_pos (by show (0 : Int) < _; omega)
    rw [e1]
    cases y with
    | none => rfl
    | some h' => exact if_neg (by have := o h' rfl; omega)
  · have := ok_gen k
    cases x with
    | none => exact if_pos (by show (0 : Int) < _; omega)
    | some h' =>
      have hl := o h' rfl
      refine if_pos ?_
      show (stepH noHd (some h')).gen < _
      unfold stepH
      dsimp only
      split
      · exact hl
      · show (0 : Int) < _; omega
theorem InvH.best {D : Dk} {was : Hd} {n : Nat} (I : InvH D was n) : bestH D 0 = was := by
  unfold bestH
  have e0 : readV D 0 = D.kept.getD 0 ByteArray.empty := readV_kept I.wl 0
  have e1 : readV D (0 + 1) = D.kept.getD 1 ByteArray.empty := readV_kept I.wl 1
  rw [e0, e1]
  apply step_best
  rcases I.hd with ⟨h, k⟩ | ⟨h, _, p, hp, _, k1, k2⟩
  · exact .inl ⟨h, k 0 (by omega), k 1 (by omega)⟩
  · refine .inr ⟨h, ?_⟩
    match p, hp with
    | 0, _ => exact .inl ⟨k1, k2⟩
    | 1, _ => exact .inr ⟨k1, k2⟩
theorem InvH.find {D : Dk} {was : Hd} {n : Nat} (I : InvH D was n) : findR D 0 = (was, findE was) := by
  unfold findR
  have t0 : thereE D 0 = 0 := there3 I.kl I.de 0 (by omega)
  have t1 : thereE D (0 + 1) = 0 := there3 I.kl I.de 1 (by omega)
  rw [if_pos t0, if_pos t1, I.best]
theorem InvH.gen0 {D : Dk} {was : Hd} {n : Nat} (I : InvH D was n) : 0 ≤ was.gen := by
  rcases I.hd with ⟨h, _⟩ | ⟨h, _⟩
  · rw [h]; exact Int.le_refl _
  · have := ok_gen h; omega

/-- The disk behind a crash. -/
def keptD (D : Dk) (k : List ByteArray) (w b : Int) : Dk := { kept := k, wait := [], fuse := -1, dead := false, writes := w, barriers := b }
theorem InvH.same {D : Dk} {was : Hd} {n : Nat} (I : InvH D was n) {w b : Int} (w0 : 0 ≤ w) (b0 : 0 ≤ b) (hw : w ≤ n + 1) (hb : b ≤ n + 1) (hn : n ≤ 1000) : InvH (keptD D D.kept w b) was (n + 1) :=
  ⟨I.kl, I.sz, rfl, rfl, rfl, ⟨by show (-1 : Int) ≤ -1; omega, by show (-1 : Int) ≤ (9223372036854775807 : Int); omega, w0, by show w ≤ _; omega, b0, by show b ≤ _; omega, by show 0 ≤ _; omega, I.ok.kl, fun x hx => by cases hx⟩, by show w ≤ _; omega, by show b ≤ _; omega, by have := I.ge; omega, I.hd⟩
theorem InvH.next {D : Dk} {was : Hd} {n : Nat} (I : InvH D was n) {h : Hd} (k : okHd h = true) (hx : h.next ≤ 9223372036854775807) (hg : h.gen = was.gen + 1) {w b : Int} (w0 : 0 ≤ w) (b0 : 0 ≤ b) (hw : w ≤ n + 1) (hb : b ≤ n + 1) (hn : n ≤ 1000) :
    InvH (keptD D (D.kept.set (h.gen % 2).toNat (headB h)) w b) h (n + 1) := by
  have hge := I.ge
  refine ⟨by show 2 ≤ (D.kept.set _ _).length; rw [List.length_set]; exact I.kl, fun s hs => by
      rcases List.mem_or_eq_of_mem_set hs with h1 | h1
      · exact I.sz s h1
      · rw [h1]; exact headB_size h, rfl, rfl, rfl, ⟨by show (-1 : Int) ≤ -1; omega, by show (-1 : Int) ≤ (9223372036854775807 : Int); omega, w0, by show w ≤ _; omega, b0, by show b ≤ _; omega, by show 0 ≤ _; omega, by show (D.kept.set _ _).length ≤ _; rw [List.length_set]; exact I.ok.kl, fun x hx => by cases hx⟩, by show w ≤ _; omega, by show b ≤ _; omega, by omega, .inr ⟨k, hx, (h.gen % 2).toNat, by omega, by omega, ?_, ?_⟩⟩
  · show getP ((D.kept.set (h.gen % 2).toNat (headB h)).getD _ _) = _
    rw [List.getD_eq_getElem?_getD, List.getElem?_set_self (by have := I.kl; omega)]
    exact getP_headB k (by omega) hx
  · show Older (getP ((D.kept.set (h.gen % 2).toNat (headB h)).getD (1 - (h.gen % 2).toNat) _)) h
    rw [List.getD_eq_getElem?_getD, List.getElem?_set_ne (by omega), ← List.getD_eq_getElem?_getD]
    rcases I.hd with ⟨e, z⟩ | ⟨e, _, p, hp, hpm, z, o⟩
    · intro h' eh
      rw [z _ (by omega)] at eh
      cases eh
    · have e1 : 1 - (h.gen % 2).toNat = p := by omega
      rw [e1, z]
      intro h' eh
      obtain rfl := Option.some.inj eh
      omega
/-- One round: a fuse, Save, a crash. -/
theorem InvH.round {D : Dk} {was : Hd} {n : Nat} (I : InvH D was n) {h : Hd} (k : okHd h = true) (hx : h.next ≤ 9223372036854775807) (hg : h.gen = was.gen + 1) (f : Int) (hf : -1 ≤ f) (zs : List Int) (hn : n ≤ 1000) :
    ((putH { D with fuse := f } 0 h).1 = h ∧ (putH { D with fuse := f } 0 h).2.1 = 0 ∧ InvH (crashD (putH { D with fuse := f } 0 h).2.2 zs) h (n + 1)) ∨
    ((putH { D with fuse := f } 0 h).2.1 = 30 ∧ (InvH (crashD (putH { D with fuse := f } 0 h).2.2 zs) was (n + 1) ∨ InvH (crashD (putH { D with fuse := f } 0 h).2.2 zs) h (n + 1))) := by
  have hm : 0 ≤ h.gen % 2 ∧ h.gen % 2 < 2 := ⟨by omega, by omega⟩
  have wr0 := I.ok.w0
  have ba0 := I.ok.b0
  have wr1 := I.wr
  have ba1 := I.ba
  obtain ⟨kept, wait, fuse, dead, writes, barriers⟩ := D
  have kl : 2 ≤ kept.length := I.kl
  obtain rfl : wait = [] := I.wl
  obtain rfl : dead = false := I.de
  obtain rfl : fuse = -1 := I.fu
  dsimp only at *
  obtain ⟨p, hp⟩ : ∃ p : Nat, h.gen % 2 = (p : Int) := ⟨(h.gen % 2).toNat, by omega⟩
  have hp2 : p < 2 := by omega
  have hnext := fun (w b : Int) (w0 : 0 ≤ w) (b0 : 0 ≤ b) (hw : w ≤ n + 1) (hb : b ≤ n + 1) => I.next k hx hg w0 b0 hw hb hn
  have hsame := fun (w b : Int) (w0 : 0 ≤ w) (b0 : 0 ≤ b) (hw : w ≤ n + 1) (hb : b ≤ n + 1) => I.same (was := was) w0 b0 hw hb hn
  unfold keptD at hnext hsame
  rw [hp] at hnext
  dsimp only at hnext hsame
  rw [Int.toNat_natCast] at hnext
  have hsz : (headB h).size = 128 := headB_size h
  have hpad : pad (headB h) = headB h := by
    unfold pad; rw [hsz]
    apply ByteArray.ext
    simp [zeros]
  have al : ∀ (f2 : Int) (w2 : List (ByteArray × Int)) (a b : Int), aliveE ⟨kept, w2, f2, false, a, b⟩ = 0 := fun f2 w2 a b => by
    unfold aliveE madeB
    rw [if_pos (by simp; omega), if_neg (by simp)]
  have th : thereE ⟨kept, [], f, false, writes, barriers⟩ (p : Int) = 0 := by
    unfold thereE
    rw [if_pos (al _ _ _ _), if_neg (by show ¬ ((p : Int) < 0 ∨ (kept.length : Int) ≤ p); omega)]
  have hcr : ∀ D2 : Dk, D2.kept = kept → crashD D2 zs = { keepD D2 (inKeep zs) with fuse := -1, dead := false } := fun D2 e => by
    unfold crashD madeB
    rw [e, if_pos (by simp; omega)]
  unfold putH
  rw [hp, Int.zero_add]
  by_cases f0 : f = 0
  · subst f0
    have we : writeE ⟨kept, [], 0, false, writes, barriers⟩ (p : Int) (headB h) = 30 := by
      unfold writeE burnE
      rw [if_pos th, if_neg (by omega), if_pos rfl]
    have wd : writeD ⟨kept, [], 0, false, writes, barriers⟩ (p : Int) (headB h) = ⟨kept, [], 0, true, writes, barriers⟩ := by
      unfold writeD burnD
      rw [if_pos ⟨th, by omega⟩, if_pos rfl, if_pos rfl]
    rw [we, wd, if_neg (by omega)]
    refine .inr ⟨rfl, .inl ?_⟩
    rw [hcr _ rfl]
    exact hsame writes barriers (by omega) (by omega) (by omega) (by omega)
  · have we : writeE ⟨kept, [], f, false, writes, barriers⟩ (p : Int) (headB h) = 0 := by
      unfold writeE burnE
      rw [if_pos th, if_neg (by omega), if_neg f0]
    have wd : writeD ⟨kept, [], f, false, writes, barriers⟩ (p : Int) (headB h) = ⟨kept, [(headB h, (p : Int))], max (f - 1) (-1), false, writes + 1, barriers⟩ := by
      unfold writeD wroteD burnD
      rw [if_pos ⟨th, by omega⟩, if_neg f0, if_neg f0, hpad]
      rfl
    rw [we, wd, if_pos rfl]
    have hset : ∀ pick : Nat → Bool, pick 0 = true → keepK pick kept [(headB h, (p : Int))] 1 = kept.set p (headB h) := fun pick hpk => by
      rw [keepK_yes (k := 0) (x := (headB h, (p : Int))) rfl hpk]
      rfl
    have hnot : ∀ pick : Nat → Bool, pick 0 = false → keepK pick kept [(headB h, (p : Int))] 1 = kept := fun pick hpk => by
      rw [keepK_no (k := 0) (x := (headB h, (p : Int))) rfl hpk]
      rfl
    by_cases f1 : max (f - 1) (-1) = 0
    · rw [f1]
      have be : barrierE ⟨kept, [(headB h, (p : Int))], 0, false, writes + 1, barriers⟩ = 30 := by
        unfold barrierE burnE
        rw [if_pos (al _ _ _ _), if_pos rfl]
      have bd : barrierD ⟨kept, [(headB h, (p : Int))], 0, false, writes + 1, barriers⟩ = ⟨kept, [(headB h, (p : Int))], 0, true, writes + 1, barriers⟩ := by
        unfold barrierD burnD
        rw [if_pos (al _ _ _ _), if_pos rfl, if_pos rfl]
      rw [be, bd, if_neg (by omega)]
      rw [hcr _ rfl]
      refine .inr ⟨rfl, ?_⟩
      unfold keepD
      dsimp only
      by_cases hz : inKeep zs 0 = true
      · rw [show [(headB h, (p : Int))].length = 1 from rfl, hset _ hz]
        exact .inr (hnext (writes + 1) barriers (by omega) (by omega) (by omega) (by omega))
      · rw [show [(headB h, (p : Int))].length = 1 from rfl, hnot _ (by simpa using hz)]
        exact .inl (hsame (writes + 1) barriers (by omega) (by omega) (by omega) (by omega))
    · obtain ⟨f2, hf2⟩ : ∃ f2, max (f - 1) (-1) = f2 := ⟨_, rfl⟩
      rw [hf2] at f1 ⊢
      have be : barrierE ⟨kept, [(headB h, (p : Int))], f2, false, writes + 1, barriers⟩ = 0 := by
        unfold barrierE burnE
        rw [if_pos (al _ _ _ _), if_neg f1]
      have bd : barrierD ⟨kept, [(headB h, (p : Int))], f2, false, writes + 1, barriers⟩ = ⟨kept.set p (headB h), [], max (f2 - 1) (-1), false, writes + 1, barriers + 1⟩ := by
        unfold barrierD barredD burnD
        rw [if_pos (al _ _ _ _), if_neg f1, if_neg f1]
        unfold keepD
        dsimp only
        rw [show [(headB h, (p : Int))].length = 1 from rfl, hset _ rfl]
      rw [be, bd, if_pos rfl]
      refine .inl ⟨rfl, rfl, ?_⟩
      have hcr2 : crashD ⟨kept.set p (headB h), [], max (f2 - 1) (-1), false, writes + 1, barriers + 1⟩ zs = ⟨kept.set p (headB h), [], -1, false, writes + 1, barriers + 1⟩ := by
        unfold crashD madeB
        rw [if_pos (by simp; omega)]
        rfl
      rw [hcr2]
      exact hnext (writes + 1) (barriers + 1) (by omega) (by omega) (by omega) (by omega)
/-- Save, on a disk without a fuse. -/
theorem InvH.put {D : Dk} {was : Hd} {n : Nat} (I : InvH D was n) {h : Hd} (k : okHd h = true) (hx : h.next ≤ 9223372036854775807) (hg : h.gen = was.gen + 1) (hn : n ≤ 1000) :
    putH D 0 h = (h, 0, keptD D (D.kept.set (h.gen % 2).toNat (headB h)) (D.writes + 1) (D.barriers + 1)) ∧ InvH (keptD D (D.kept.set (h.gen % 2).toNat (headB h)) (D.writes + 1) (D.barriers + 1)) h (n + 1) := by
  have hm : 0 ≤ h.gen % 2 ∧ h.gen % 2 < 2 := ⟨by omega, by omega⟩
  have wr0 := I.ok.w0
  have ba0 := I.ok.b0
  have wr1 := I.wr
  have ba1 := I.ba
  refine ⟨?_, I.next k hx hg (by omega) (by omega) (by omega) (by omega) hn⟩
  obtain ⟨kept, wait, fuse, dead, writes, barriers⟩ := D
  have kl : 2 ≤ kept.length := I.kl
  obtain rfl : wait = [] := I.wl
  obtain rfl : dead = false := I.de
  obtain rfl : fuse = -1 := I.fu
  dsimp only at *
  obtain ⟨p, hp⟩ : ∃ p : Nat, h.gen % 2 = (p : Int) := ⟨(h.gen % 2).toNat, by omega⟩
  have hsz : (headB h).size = 128 := headB_size h
  have hpad : pad (headB h) = headB h := by
    unfold pad; rw [hsz]
    apply ByteArray.ext
    simp [zeros]
  have al : ∀ (f2 : Int) (w2 : List (ByteArray × Int)) (a b : Int), aliveE ⟨kept, w2, f2, false, a, b⟩ = 0 := fun f2 w2 a b => by
    unfold aliveE madeB
    rw [if_pos (by simp; omega), if_neg (by simp)]
  have th : thereE ⟨kept, [], -1, false, writes, barriers⟩ (p : Int) = 0 := by
    unfold thereE
    rw [if_pos (al _ _ _ _), if_neg (by show ¬ ((p : Int) < 0 ∨ (kept.length : Int) ≤ p); omega)]
  have we : writeE ⟨kept, [], -1, false, writes, barriers⟩ (p : Int) (headB h) = 0 := by
    unfold writeE burnE
    rw [if_pos th, if_neg (by omega), if_neg (by show ¬ (-1 : Int) = 0; omega)]
  have wd : writeD ⟨kept, [], -1, false, writes, barriers⟩ (p : Int) (headB h) = ⟨kept, [(headB h, (p : Int))], -1, false, writes + 1, barriers⟩ := by
    unfold writeD wroteD burnD
    rw [if_pos ⟨th, by omega⟩, if_neg (by show ¬ (-1 : Int) = 0; omega), if_neg (by show ¬ (-1 : Int) = 0; omega), hpad]
    rfl
  have be : barrierE ⟨kept, [(headB h, (p : Int))], -1, false, writes + 1, barriers⟩ = 0 := by
    unfold barrierE burnE
    rw [if_pos (al _ _ _ _), if_neg (by show ¬ (-1 : Int) = 0; omega)]
  have bd : barrierD ⟨kept, [(headB h, (p : Int))], -1, false, writes + 1, barriers⟩ = ⟨kept.set p (headB h), [], -1, false, writes + 1, barriers + 1⟩ := by
    unfold barrierD barredD burnD
    rw [if_pos (al _ _ _ _), if_neg (by show ¬ (-1 : Int) = 0; omega), if_neg (by show ¬ (-1 : Int) = 0; omega)]
    unfold keepD
    dsimp only
    rw [show [(headB h, (p : Int))].length = 1 from rfl, keepK_yes (k := 0) (x := (headB h, (p : Int))) rfl rfl]
    rfl
  unfold putH keptD
  rw [hp, Int.zero_add, we, wd, be, bd, if_pos rfl, if_pos rfl, Int.toNat_natCast]
theorem InvH.save {D : Dk} {was : Hd} {n : Nat} (I : InvH D was n) {h : Hd} (k : okHd (withG h (was.gen + 1)) = true) (hg : was.gen < 9223372036854775807) : saveR D 0 h = putH D 0 (withG h (was.gen + 1)) := by
  unfold saveR
  rw [I.find]
  dsimp only
  rw [if_neg (by unfold findE; split <;> omega), if_neg (by omega), if_pos k]
theorem InvH.reads {D : Dk} {was : Hd} {n : Nat} (I : InvH D was n) (f : Int) (i : Int) : (readV { D with fuse := f } i).size ≤ 9223372036854775807 := by
  unfold readV lastAt
  dsimp only
  rw [I.wl]
  show (D.kept.getD i.toNat ByteArray.empty).size ≤ _
  rw [List.getD_eq_getElem?_getD]
  cases hk : D.kept[i.toNat]? with
  | none => exact Nat.zero_le _
  | some s => have := I.sz s (List.mem_of_getElem? hk); show s.size ≤ _; omega
theorem byt_zeros (n i : Nat) : byt (zeros n) i = 0 := by
  unfold byt
  split
  · rename_i h
    show ((zeros n).data[i]'h).toNat = 0
    simp [zeros]
  · rfl
theorem numAt_zero {S : ByteArray} (h : ∀ i, byt S i = 0) : ∀ k, numAt S k = 0
  | 0 => rfl
  | k + 1 => by rw [numAt, numAt_zero h k, h]
theorem getP_zeros : getP (zeros 128) = none := by
  cases h : getP (zeros 128) with
  | none => rfl
  | some x =>
    exfalso
    obtain ⟨_, rfl, k, _⟩ := getP_some h
    have g := ok_gen k
    have e : fld (zeros 128) 4 8 = 0 := numAt_zero (fun i => by
      by_cases hi : 4 + i < (zeros 128).size
      · rw [left_byt _ _ _ hi, byt_zeros]
      · unfold byt
        rw [dif_neg (by rw [left_size]; omega)]) 8
    have g2 : (1 : Int) ≤ ((fld (zeros 128) 4 8 : Nat) : Int) := g
    omega
theorem invH_new {n : Nat} (h : 2 ≤ n) (h2 : n ≤ 65536) : InvH (newD n) noHd 0 :=
  ⟨by show 2 ≤ (List.replicate n (zeros 128)).length; rw [List.length_replicate]; exact h, fun s hs => by rw [List.eq_of_mem_replicate hs]; exact zeros_size _, rfl, rfl, rfl, newD_ok h2, Int.le_refl _, Int.le_refl _, Int.le_refl _, .inl ⟨rfl, fun i hi => by
    show getP ((List.replicate n (zeros 128)).getD i ByteArray.empty) = none
    rw [List.getD_eq_getElem?_getD, List.getElem?_replicate, if_pos (by omega)]
    exact getP_zeros⟩⟩
end Go.Proofs.YtmkpglabiikdeaaGreat

