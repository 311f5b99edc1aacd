/-
  Rows that stand unread: a load, a slice of one, by name alone. Generic, no program in sight.
-/
import Derived.Deep.MidRow
import Derived.Great.BuildSlice
import Derived.WalkKit

import Derived.Test.YtodjdcdbmbmbmaaGreatDoorSat
namespace PH
open Go Go.RowKit
section
variable {P : Program} {ops : Array Oper} {Q : Exit → Act → World → Prop} {rest : List Oper} {ac : Act} {w : World} {d : Option Tmp} {k : Tmp} {ty : TypeId} {pos : String} {af : Array Edge}
theorem wpl_load (t : TypeId) (g off : Nat) (cs : List Value) (td : TypeDesc) (hx : ac.eval (.tmp k) = .pointer (some ⟨g, off, none⟩)) (hc : w.rangeAt g off cs)
    (hu : P.underlying t = some td) (hd : td.isRow = true) (hi : (P.info? t).map (·.size) = some cs.length) (h : wpList P ops Q rest (ac.put d (.agg cs.toArray)) w) :
    wpList P ops Q ({ dst := d, op := .load t (.tmp k), type := ty, pos := pos, after := af, guard := none } :: rest) ac w :=
  wpList_load_mid rfl t _ rfl g off hx cs td hc hu hd hi h
theorem wpl_loadG {gd : Option (Nat × Bool)} (t : TypeId) (g off : Nat) (cs : List Value) (td : TypeDesc) (hc : w.rangeAt g off cs)
    (hu : P.underlying t = some td) (hd : td.isRow = true) (hi : (P.info? t).map (·.size) = some cs.length) (hw : Region.wanted { dst := d, op := .load t (.tmp k), type := ty, pos := pos, after := af, guard := gd } (yielded ops ac.tmps) = true)
    (hx : ac.eval (.tmp k) = .pointer (some ⟨g, off, none⟩)) (h : wpList P ops Q rest (ac.put d (.agg cs.toArray)) w) :
    wpList P ops Q ({ dst := d, op := .load t (.tmp k), type := ty, pos := pos, after := af, guard := gd } :: rest) ac w :=
  wpList_step fun K hK => by rw [if_pos hw]; exact (wp_load_mid t _ rfl g off hx cs td hc hu hd hi (hK _ _ h))
theorem wpo_load {gd : Option (Nat × Bool)} {K : Act → World → Prop} (t : TypeId) (g off : Nat) (cs : List Value) (td : TypeDesc) (hx : ac.eval (.tmp k) = .pointer (some ⟨g, off, none⟩)) (hc : w.rangeAt g off cs)
    (hu : P.underlying t = some td) (hd : td.isRow = true) (hi : (P.info? t).map (·.size) = some cs.length) (h : K (ac.put d (.agg cs.toArray)) w) :
    Oper.wp P { dst := d, op := .load t (.tmp k), type := ty, pos := pos, after := af, guard := gd } ac w K Q :=
  wp_load_mid t _ rfl g off hx cs td hc hu hd hi h
theorem fill_one {sz : Nat} (S : List Value) (hS : S.length = sz) (hsz : 0 < sz) (z : Array Value) (hz : z.size = 1 * sz) : Instr.fill (fun i => some (i * sz, sz)) z [(0, .agg S.toArray)] = some S.toArray := by
  have h1 : (Value.agg S.toArray).cells = S.toArray := rfl
  have key : ∀ (l : List Value) (o : Nat) (c : Array Value), o + l.length = c.size → ((l.zipIdx o).foldl (fun cs (x : Value × Nat) => cs.setIfInBounds x.2 x.1) c).toList = c.toList.take o ++ l := by
    intro l
    induction l with
    | nil => intro o c h; simp at h; simp [h, List.take_of_length_le]
    | cons a l ih =>
      intro o c h
      rw [List.length_cons] at h
      rw [List.zipIdx_cons, List.foldl_cons, ih (o + 1) _ (by simp; omega)]
      simp only [Array.toList_setIfInBounds]
      rw [List.take_set, List.take_add_one, Array.getElem?_toList, Array.getElem?_eq_getElem (by omega), List.set_append_right _ _ (by simp; omega)]
      simp [Nat.min_eq_left (show o ≤ c.size by omega)]
  unfold Instr.fill
  simp only [h1, List.size_toArray, hS, Nat.zero_mul, Nat.zero_add, hz, Nat.one_mul, ne_eq, not_true_eq_false, decide_false, Bool.false_or, gt_iff_lt, Nat.lt_irrefl, if_false, Instr.fill]
  have := key S 0 z (by rw [hS, hz]; omega)
  rw [if_neg (by decide)]
  refine congrArg some (Array.toList_inj.1 ?_)
  rw [← Array.foldl_toList]
  simpa using this
theorem wpl_slice1 (t e : TypeId) (S : List Value) (sz : Nat) (hx : ac.eval (.tmp k) = .agg S.toArray) (hS : S.length = sz) (h0 : 0 < sz) (hm : sz ≤ 1000)
    (hu : P.underlying t = some (.slice e)) (hi : ((P.info? e).bind fun i => i.zero.map fun _ => i.size) = some sz) (h : wpList P ops Q rest (ac.put d (.slice (some ⟨w.heap.size, 0, none⟩) 1 1)) (w.alloc (.cells S.toArray e))) :
    wpList P ops Q ({ dst := d, op := .buildSlice t 1 #[(0, .tmp k)], type := ty, pos := pos, after := af, guard := none } :: rest) ac w := by
  obtain ⟨ie, hie, h2⟩ := Option.bind_eq_some_iff.1 hi
  obtain ⟨z, hz, h3⟩ := Option.map_eq_some_iff.1 h2
  subst h3
  refine wpList_buildSlice rfl t e 1 _ rfl S.toArray ie z hu hie hz (by omega) (by omega) ?_ h
  simp only [List.map_toArray, List.map_cons, List.map_nil, hx]
  exact fill_one S hS h0 _ (by simp)
theorem wpl_alloc (t : TypeId) (Z : List Value) (hz : ((P.info? t).bind fun i => i.zero) = some (.agg Z.toArray)) (h : wpList P ops Q rest (ac.put d (.pointer (some ⟨w.heap.size, 0, none⟩))) (w.alloc (.cells Z.toArray t))) :
    wpList P ops Q ({ dst := d, op := .alloc t, type := ty, pos := pos, after := af, guard := none } :: rest) ac w := by
  obtain ⟨i, hi, hz⟩ := Option.bind_eq_some_iff.1 hz
  refine wpList_plain rfl fun K hK => ?_
  have hr : (Instr.alloc t true (.tuple #[])).run P w = .ok (.pointer (some ⟨w.heap.size, 0, none⟩)) (w.alloc (.cells Z.toArray t)) := by
    simp [Instr.alloc, zeroValue, typeInfo, hi, hz, newVar, newRow, Value.cells]
  unfold Oper.wp execOp
  simp only [Sem.run_bind, Sem.run_pure, hr, Result.andThen_ok]
  exact hK _ _ h
theorem wpl_build (t : TypeId) (v : Value) (hr : ∀ w : World, (Instr.build t #[]).run P w = .ok v w) (h : wpList P ops Q rest (ac.put d v) w) :
    wpList P ops Q ({ dst := d, op := .build t #[], type := ty, pos := pos, after := af, guard := none } :: rest) ac w := by
  refine wpList_plain rfl fun K hK => ?_
  unfold Oper.wp execOp
  simp only [List.map_toArray, List.map_nil, Sem.run_bind, Sem.run_pure, hr, Result.andThen_ok]
  exact hK _ _ h
theorem wpl_buildG {gd : Option (Nat × Bool)} (t : TypeId) (v : Value) (hr : ∀ w : World, (Instr.build t #[]).run P w = .ok v w) (hw : Region.wanted { dst := d, op := .build t #[], type := ty, pos := pos, after := af, guard := gd } (yielded ops ac.tmps) = true) (h : wpList P ops Q rest (ac.put d v) w) :
    wpList P ops Q ({ dst := d, op := .build t #[], type := ty, pos := pos, after := af, guard := gd } :: rest) ac w :=
  wpList_step fun K hK => by
    rw [if_pos hw]
    unfold Oper.wp execOp
    simp only [List.map_toArray, List.map_nil, Sem.run_bind, Sem.run_pure, hr, Result.andThen_ok]
    exact hK _ _ h
end
end PH
