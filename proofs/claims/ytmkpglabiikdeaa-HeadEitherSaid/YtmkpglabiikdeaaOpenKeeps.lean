/-
  An argument that is a slice of slices of integers, opened to what its cells read as; heads in a row, read.
-/
import Derived.Test.YtmkpglabiikdeaaOpenHeads
import Derived.Test.YtmkpglabiikdeaaHeadL
namespace Go.Proofs.Ytmkpglabiikdeaa
open Go.ChangeShapes Go.WideShapes Go.RowKit Go.Deep PH

structure Kq where
  zs : List Int
  a : Option Addr
  c : Nat
def SeesK (W : World) (a : Option Addr) (ks : List Kq) : Prop := ∀ (j : Nat) (x : Kq), ks[j]? = some x → ∃ b off, a = some ⟨b, off, none⟩ ∧ W.cell? ⟨b, off + j, none⟩ = some (.slice x.a x.zs.length x.c)

section
variable {H : Type} {enc : TypeId × Value → H} {W : World}
set_option maxRecDepth 100000 in
theorem open_intss {fuel len cap : Nat} {a : Option Addr} {x : DataW H × List MemPlace} (h : DataW.trod enc Try.prog W 0 (fun _ => true) true fuel 102 [.slice a len cap] = some x) :
    ∃ ks : List Kq, ks.length = len ∧ SeesK W a ks ∧ (∀ x ∈ ks, SeesI W x.a x.zs ∧ x.zs.length ≤ maxLen) ∧ len ≤ maxLen := by
  have hc1 : Try.prog.cellsOf 42 = 1 := by kernel_rfl
  rcases open_slice Try.underlying102 h with ⟨hcs, _⟩ | ⟨a0, len', cap', m, n, D, Pl, hcs, _, hl, hm, hmm, _, hel⟩
  · cases hcs
    exact ⟨[], rfl, fun j u hj => by simp at hj, fun x hx => (by cases hx), by unfold maxLen; omega⟩
  · cases hcs
    simp only [if_true] at hmm
    subst hmm
    rw [hc1] at hel
    have hx : ∀ i, i < len → ∃ x : Kq, W.cell? (a0.add (i * 1)) = some (.slice x.a x.zs.length x.c) ∧ SeesI W x.a x.zs ∧ x.zs.length ≤ maxLen := by
      intro i hi
      obtain ⟨cs', hc0, ht0⟩ := hel i (by omega)
      obtain ⟨_, _, hcell⟩ := World.cells?_some hc0
      have hlen : cs'.length = 1 := by
        have := World.cells?_some hc0
        simp_all
      match cs', hlen, ht0, hcell with
      | [c0], _, ht0, hcell =>
        obtain ⟨a', n', c', rfl⟩ : ∃ a' n' c', c0 = .slice a' n' c' := by
          rcases open_slice Try.underlying42 ht0 with ⟨hcs, _⟩ | ⟨a1, len', cap', m, n, D, Pl, hcs, _⟩
          · cases hcs; exact ⟨_, _, _, rfl⟩
          · cases hcs; exact ⟨_, _, _, rfl⟩
        obtain ⟨zs, rfl, hsee, hmax⟩ := open_ints ht0
        refine ⟨⟨zs, a', c'⟩, ?_, hsee, hmax⟩
        have := hcell 0 (by omega)
        simpa [Addr.add] using this
    obtain ⟨f, hf⟩ : ∃ f : Nat → Kq, ∀ i, i < len → W.cell? (a0.add (i * 1)) = some (.slice (f i).a (f i).zs.length (f i).c) ∧ SeesI W (f i).a (f i).zs ∧ (f i).zs.length ≤ maxLen := by
      classical
      refine ⟨fun i => if hi : i < len then (hx i hi).choose else ⟨[], none, 0⟩, fun i hi => ?_⟩
      simp only [dif_pos hi]
      exact (hx i hi).choose_spec
    refine ⟨(List.range len).map f, by simp, ?_, fun x hx => ?_, Nat.le_trans hl hm⟩
    · intro j u hj
      have hjl : j < len := by
        have := (List.getElem?_eq_some_iff.1 hj).1
        simpa using this
      have hu : f j = u := by simpa [hjl] using hj
      subst hu
      obtain ⟨b, off, spot⟩ := a0
      have h0 := (hf j hjl).1
      obtain rfl : spot = none := by simpa [Addr.add] using World.cell?_spot (hf 0 (by omega)).1
      refine ⟨b, off, rfl, ?_⟩
      rw [add_plain, Nat.mul_one] at h0
      exact h0
    · obtain ⟨i, hi, rfl⟩ := List.mem_map.1 hx
      exact (hf i (List.mem_range.1 hi)).2
end
theorem Sees.hd {w : World} {a : Option Addr} {l : List Hd} (h : Sees w a (hds l)) {k : Nat} {V : Hd} (hk : l[k]? = some V) : ∃ b off, a = some ⟨b, off, none⟩ ∧ w.rangeAt b (off + k * 7) V.list := by
  have g : ∀ j, j < 7 → (hds l)[k * 7 + j]? = V.list[j]? := fun j hj => flat5 Hd.list 7 (fun _ => rfl) l k j V hk hj
  obtain ⟨b, off, rfl, h0⟩ := h _ _ (g 0 (by omega))
  refine ⟨b, off, rfl, fun j v hj => ?_⟩
  have hj7 : j < 7 := (List.getElem?_eq_some_iff.1 hj).1
  obtain ⟨b', off', e, h1⟩ := h _ v ((g j hj7).trans hj)
  cases e
  rw [Nat.add_assoc]
  exact h1
theorem rangeAt_kept {w w' : World} {b o : Nat} {cs : List Value} (h : w.rangeAt b o cs) (hb : Below w.heap.size w w') : w'.rangeAt b o cs := fun j v hj => PH.kept hb (h j v hj)
/-- A head is loaded out of a row. -/
theorem wpList_load_hd {w : World} {ops : Array Oper} {rest : List Oper} {op : Oper} {a : Act} {Q : Exit → Act → World → Prop} {b o : Nat} (V : Hd) (hr : w.rangeAt b o V.list)
    (hop : op.guard = none ∧ ∃ x : Operand, op.op = .load 85 x ∧ a.eval x = .pointer (some ⟨b, o, none⟩))
    (h : wpList Try.prog ops Q rest (a.put op.dst (.agg #[.int .i64 V.gen, .int .i64 V.epoch, .int .i64 V.since, .int .i64 V.area, .int .i64 V.size, .int .i64 V.next, .int .i64 V.pos])) w) : wpList Try.prog ops Q (op :: rest) a w := by
  obtain ⟨hgd, x, ho, hx⟩ := hop
  exact wpList_load_mid hgd 85 x ho b o hx V.list _ hr Try.underlying85 rfl info85 h

/-- One round, whatever the crash keeps. -/
theorem InvH.round2 {D : Dk} {was : Hd} {n : Nat} (I : InvH D was n) {h : Hd} (k : okHd h = true) (hx : h.next ≤ 9223372036854775807) (hg : h.gen = was.gen + 1) (f : Int) (hf : -1 ≤ f) (hf2 : f ≤ 100) (hn : n ≤ 1000) :
    ∃ S e D2, putH { D with fuse := f } 0 h = (S, e, D2) ∧ OkD D2 ∧ ((e = 0 ∧ S = h ∧ ∀ zs, InvH (crashD D2 zs) h (n + 1)) ∨ (e = 30 ∧ ∀ zs, InvH (crashD D2 zs) was (n + 1) ∨ InvH (crashD D2 zs) h (n + 1))) := by
  have hok3 : OkD (putH { D with fuse := f } 0 h).2.2 := by
    have ok1 : OkD { D with fuse := f } := ⟨hf, by show f ≤ _; omega, I.ok.w0, I.ok.w1, I.ok.b0, I.ok.b1, I.ok.wl, I.ok.kl, I.ok.wk⟩
    have hw := I.wr
    have hb := I.ba
    have ok2 := ok1.write (0 + h.gen % 2) (headB h) (by show D.writes < _; omega) (by show D.wait.length < _; rw [I.wl]; decide)
    have hb2 : (writeD { D with fuse := f } (0 + h.gen % 2) (headB h)).barriers = D.barriers := by
      unfold writeD wroteD
      split
      · split <;> exact (burnD_same _).2.2.2
      · rfl
    have ok3 := ok2.barrier (by rw [hb2]; omega)
    unfold putH
    split
    · split
      · exact ok3
      · exact ok3
    · exact ok2
  refine ⟨_, _, _, rfl, hok3, ?_⟩
  · have r := fun zs => I.round k hx hg f hf zs hn
    rcases r [] with ⟨h1, h2, h3⟩ | ⟨h2, h3⟩
    · refine .inl ⟨h2, h1, fun zs => ?_⟩
      rcases r zs with ⟨_, _, k3⟩ | ⟨k2, _⟩
      · exact k3
      · rw [h2] at k2; cases k2
    · refine .inr ⟨h2, fun zs => ?_⟩
      rcases r zs with ⟨_, k2, _⟩ | ⟨_, k3⟩
      · rw [h2] at k2; cases k2
      · exact k3
theorem saveR_fuse (D : Dk) (f : Int) {was : Hd} {n : Nat} (I : InvH D was n) (h : Hd) (k : okHd (withG h (was.gen + 1)) = true) (hn : n ≤ 1000) : saveR { D with fuse := f } 0 h = putH { D with fuse := f } 0 (withG h (was.gen + 1)) := by
  have hf : findR { D with fuse := f } 0 = (was, findE was) := by
    have := I.find
    unfold findR thereE aliveE bestH readV at this ⊢
    exact this
  have hg := I.ge
  unfold saveR
  rw [hf]
  dsimp only
  rw [if_neg (by unfold findE; split <;> omega), if_neg (by omega), if_pos k]
theorem armD_live {D : Dk} (al : aliveE D = 0) (n : Int) : armD D n = { D with fuse := max n (-1) } := by unfold armD; rw [if_pos al]
theorem InvH.alive {D : Dk} {was : Hd} {n : Nat} (I : InvH D was n) : aliveE D = 0 := by
  have h := I.kl
  unfold aliveE madeB
  rw [I.de, decide_eq_true (by omega : 0 < D.kept.length)]
  rfl
theorem InvH.int64 {D : Dk} {was : Hd} {n : Nat} (I : InvH D was n) : 0 ≤ was.gen ∧ was.gen ≤ n := ⟨I.gen0, I.ge⟩
theorem InvH.okf {D : Dk} {was : Hd} {n : Nat} (I : InvH D was n) (f : Int) (hf : -1 ≤ f) (hf2 : f ≤ 100) : OkD { D with fuse := f } := ⟨hf, by show f ≤ _; omega, I.ok.w0, I.ok.w1, I.ok.b0, I.ok.b1, I.ok.wl, I.ok.kl, I.ok.wk⟩
end Go.Proofs.Ytmkpglabiikdeaa
