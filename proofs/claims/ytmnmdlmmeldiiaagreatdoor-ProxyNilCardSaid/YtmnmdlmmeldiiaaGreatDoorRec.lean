/-
  The reckoner: the model's steps; temporaries written.
-/
import Derived.Test.YtmnmdlmmeldiiaaGreatDoorRecE
import Derived.Recover
set_option linter.unusedVariables false
set_option linter.unusedSimpArgs false
namespace PH.R
open Go Go.RowKit

section steps
variable {P : Program} {b : Frame} {a : Act} {k : List Item} {cs : List Frame} {w w' : World} {ops : Array Oper} {i : Nat} {rest : List Nat} {o : Oper}
theorem fin_eq (ho : ops[i]? = some o) (z : Value) : (b.atR a (.inRegion ops (i :: rest) :: k)).finish z = b.atR (a.put o.dst z) (.inRegion ops rest :: k) := by
  rw [Frame.finish_atR, ho]; rfl
theorem stp_value {z : Value} (ho : ops[i]? = some o) (hw : Region.wanted o (yielded ops a.tmps) = true) (hr : (o.semAt b.roundOf a.eval).run P w = .ok (.value z) w') :
    Go.step P (lone (b.atR a (.inRegion ops (i :: rest) :: k)) cs w) = .next (lone ((b.atR a (.inRegion ops (i :: rest) :: k)).finish z) cs w') := by
  refine step_lone_go ?_
  rw [stepGR_op ho hw]
  simp [stepG.apply, hr]
theorem stp_skip (ho : ops[i]? = some o) (hw : Region.wanted o (yielded ops a.tmps) = true) (hr : (o.semAt b.roundOf a.eval).run P w = .ok .skip w') :
    Go.step P (lone (b.atR a (.inRegion ops (i :: rest) :: k)) cs w) = .next (lone ((b.atR a (.inRegion ops (i :: rest) :: k)).finish undef) cs w') := by
  refine step_lone_go ?_
  rw [stepGR_op ho hw]
  simp [stepG.apply, hr]
theorem stp_no (ho : ops[i]? = some o) (hw : Region.wanted o (yielded ops a.tmps) = false) :
    Go.step P (lone (b.atR a (.inRegion ops (i :: rest) :: k)) cs w) = .next (lone ((b.atR a (.inRegion ops (i :: rest) :: k)).finish undef) cs w) := by
  rw [Frame.finish_atR]
  exact stepR_op_skip (by rw [ho]; simpa using hw)
theorem stp_enter {f : FuncId} {args : Array Value} (ho : ops[i]? = some o) (hw : Region.wanted o (yielded ops a.tmps) = true) (hr : (o.semAt b.roundOf a.eval).run P w = .ok (.enter f args) w') :
    Go.step P (lone (b.atR a (.inRegion ops (i :: rest) :: k)) cs w) = .next (lone (Frame.enter P f args .normal) (b.atR a (.inRegion ops (i :: rest) :: k) :: cs) w') := by
  refine step_lone_go ?_
  rw [stepGR_op ho hw]
  simp [stepG.apply, hr, Frame.atR]
theorem stp_round {l : Nat} {f : FuncId} {tmps : Array Value} {assign body : Code} (ho : ops[i]? = some o) (hw : Region.wanted o (yielded ops a.tmps) = true) (hr : (o.semAt b.roundOf a.eval).run P w = .ok (.round l f tmps assign body) w') :
    Go.step P (lone (b.atR a (.inRegion ops (i :: rest) :: k)) cs w) = .next (lone (Frame.round l f tmps assign body .normal) (b.atR a (.inRegion ops (i :: rest) :: k) :: cs) w') := by
  refine step_lone_go ?_
  rw [stepGR_op ho hw]
  simp [stepG.apply, hr, Frame.atR]
theorem stp_defer {d : Deferred} (ho : ops[i]? = some o) (hw : Region.wanted o (yielded ops a.tmps) = true) (hr : (o.semAt b.roundOf a.eval).run P w = .ok (.defer d) w') :
    Go.step P (lone (b.atR a (.inRegion ops (i :: rest) :: k)) cs w) = .next (lone ((b.atR { a with defers := d :: a.defers } (.inRegion ops (i :: rest) :: k)).finish undef) cs w') := by
  refine step_lone_go ?_
  rw [stepGR_op ho hw]
  simp only [stepG.apply, Sem.runT_eq, hr, GStep.bare_after]
  rfl
theorem stp_recover (ho : ops[i]? = some o) (hw : Region.wanted o (yielded ops a.tmps) = true) (hr : (o.semAt b.roundOf a.eval).run P w = .ok .recover w') (hb : b.roundOf = none) (ht : tryRecover (b.atR a (.inRegion ops (i :: rest) :: k)) cs = none) :
    Go.step P (lone (b.atR a (.inRegion ops (i :: rest) :: k)) cs w) = .next (lone ((b.atR a (.inRegion ops (i :: rest) :: k)).finish .nilIface) cs w') := by
  refine step_lone_go ?_
  rw [stepGR_op ho hw]
  have hro : (b.atR a (.inRegion ops (i :: rest) :: k)).roundOf = none := hb
  simp only [stepG.apply, Sem.runT_eq, hr, GStep.bare_after, hro, ht]
  rfl
end steps

/-! Temporaries -/
section
variable {ms : String → List (Nat × Nat × Rc)} {μ : Mu} {n : Nat} {t : TV} {tmps : Array Value} {pend pend' : Nat → Prop}
theorem get_putD {d : Nat} {v : V} {u : Nat} (hd : d < big) (hu : u < big) : T.get undV (paOf u) (putD (some (paOf d)) v t) = if u = d then v else T.get undV (paOf u) t := by
  show T.get undV (paOf u) (T.set undV v (paOf d) t) = _
  rw [T.get_set]
  by_cases c : u = d
  · rw [if_pos c, if_pos (by rw [c])]
  · rw [if_neg c, if_neg (fun h => c (paOf_inj hu hd h))]
theorem put_getD {tmps : Array Value} {d u : Nat} {z : Value} (hd : d < tmps.size) : (tmps.setIfInBounds d z).getD u undef = if u = d then z else tmps.getD u undef := by
  rw [Array.getD_eq_getD_getElem?, Array.getElem?_setIfInBounds, Array.getD_eq_getD_getElem?]
  by_cases c : u = d
  · subst c; rw [if_pos rfl, if_pos rfl, if_pos hd]; rfl
  · rw [if_neg (Ne.symm c), if_neg c]
/-- Both write. -/
theorem TmpRel.both (h : TmpRel ms μ n t tmps pend) {dst : Option Nat} {v : V} {z : Value} (hv : conc ms μ v = some z) (hd : ∀ d, dst = some d → d < n) (hp : ∀ u, pend u → pend' u ∨ dst = some u) : TmpRel ms μ n (putD (sD dst) v t) (match dst with | some d => tmps.setIfInBounds d z | none => tmps) pend' := by
  obtain ⟨h1, h2, h3⟩ := h
  cases dst with
  | none => exact ⟨h1, h2, fun u hu hn => h3 u hu fun c => (hp u c).elim hn (fun e => by cases e)⟩
  | some d =>
    have hdn := hd d rfl
    refine ⟨by rw [Array.size_setIfInBounds]; exact h1, h2, fun u hu hn => ?_⟩
    show conc ms μ (T.get undV (paOf u) (putD (some (paOf d)) v t)) = some ((tmps.setIfInBounds d z).getD u undef)
    rw [get_putD (by omega) hu, put_getD (by omega)]
    by_cases c : u = d
    · rw [if_pos c, if_pos c]; exact hv
    · rw [if_neg c, if_neg c]
      exact h3 u hu fun k => (hp u k).elim hn (fun e => c (by cases e; rfl))
/-- The machine alone writes. -/
theorem TmpRel.one (h : TmpRel ms μ n t tmps pend) {dst : Option Nat} {v : V} (hd : ∀ d, dst = some d → d < n) (hp : ∀ u, pend u → pend' u) (hq : ∀ u, dst = some u → pend' u) : TmpRel ms μ n (putD (sD dst) v t) tmps pend' := by
  obtain ⟨h1, h2, h3⟩ := h
  refine ⟨h1, h2, fun u hu hn => ?_⟩
  cases dst with
  | none => exact h3 u hu fun c => hn (hp u c)
  | some d =>
    have hdn := hd d rfl
    show conc ms μ (T.get undV (paOf u) (putD (some (paOf d)) v t)) = _
    rw [get_putD (by omega) hu, if_neg (fun c => hn (hq u (by rw [c])))]
    exact h3 u hu fun c => hn (hp u c)
/-- The model alone writes. -/
theorem TmpRel.other (h : TmpRel ms μ n t tmps pend) {d : Nat} {z : Value} (hd : d < n) (hv : conc ms μ (T.get undV (paOf d) t) = some z) (hp : ∀ u, pend u → pend' u ∨ d = u) : TmpRel ms μ n t (tmps.setIfInBounds d z) pend' := by
  obtain ⟨h1, h2, h3⟩ := h
  refine ⟨by rw [Array.size_setIfInBounds]; exact h1, h2, fun u hu hn => ?_⟩
  rw [put_getD (by omega)]
  by_cases c : u = d
  · rw [if_pos c, c]; exact hv
  · rw [if_neg c]
    exact h3 u hu fun k => (hp u k).elim hn (fun e => c e.symm)
end

/-! Operations made ready -/
section
variable {X : Cx} {ty : Nat → Option D.Ty} {ts : List (Nat × TE)} {n : Nat} {ops : Array Oper} {o : Oper}
theorem dO_inv : (dO X.P X.ms ty ts n ops o).d = o.dst ∧ ((dO X.P X.ms ty ts n ops o).op = .bad ∧ (dO X.P X.ms ty ts n ops o).g = none ∨
    (∀ t, o.dst = some t → t < n) ∧ D.opOf ty X.ms ts X.P.globals.size o = some (dO X.P X.ms ty ts n ops o).op ∧
      (o.guard = none ∧ (dO X.P X.ms ty ts n ops o).g = none ∨ ∃ j want t, o.guard = some (j, want) ∧ (ops[j]?).bind (·.dst) = some t ∧ t < n ∧ (dO X.P X.ms ty ts n ops o).g = some (t, want))) := by
  unfold dO D.oOf
  split
  · exact ⟨rfl, .inl ⟨rfl, rfl⟩⟩
  · rename_i hd
    have hd : ∀ t, o.dst = some t → t < n := fun t ht => by
      rw [ht] at hd
      simpa using hd
    split
    · exact ⟨rfl, .inl ⟨rfl, rfl⟩⟩
    · rename_i op hop
      split
      · rename_i hg
        exact ⟨rfl, .inr ⟨hd, hop, .inl ⟨hg, rfl⟩⟩⟩
      · rename_i j want hg
        split
        · rename_i t ht
          split
          · rename_i hlt
            exact ⟨rfl, .inr ⟨hd, hop, .inr ⟨j, want, t, hg, ht, by simpa [Nat.blt_eq] using hlt, rfl⟩⟩⟩
          · exact ⟨rfl, .inl ⟨rfl, rfl⟩⟩
        · exact ⟨rfl, .inl ⟨rfl, rfl⟩⟩
theorem loud_bad : D.loudO .bad = true := rfl
theorem rv_bool_inv {μ : Mu} {v : V} {x : Bool} (h : X.Rv μ v (.bool x)) : v = .b x := by
  cases v with
  | b y => cases rv_b h; rfl
  | ni => cases rv_ni h
  | fm n tb a => obtain ⟨_, _, _, e⟩ := rv_fm h; cases e
  | ic t v => obtain ⟨_, _, e⟩ := rv_ic h; cases e
  | fu f a c => obtain ⟨_, _, _, _, e⟩ := rv_fu h; cases e
  | fy l => obtain ⟨_, _, e⟩ := rv_fy h; cases e
  | mp l => obtain ⟨_, _, e⟩ := rv_mp h; cases e
  | p l => obtain ⟨_, _, e⟩ := rv_p h; cases e
  | sl b o l c => obtain ⟨_, _, _, _, e, _⟩ := rv_sl' h; cases e
  | ag l => obtain ⟨_, _, e⟩ := rv_ag h; cases e
  | tu l => obtain ⟨_, _, e⟩ := rv_tu h; cases e
  | i k n => cases rv_i h
  | s l n => cases rv_s h
  | pn => cases rv_pn h
  | sn => cases rv_sn h
  | mn => cases rv_mn h
  | fn => cases rv_fn h
/-- Whether an operation is wanted. -/
theorem wanted_good {μ : Mu} {t : TV} {tmps : Array Value} {pend : Nat → Prop} (h : TmpRel X.ms μ n t tmps pend) (hq : o.guard = none ∧ (dO X.P X.ms ty ts n ops o).g = none ∨ ∃ j want t, o.guard = some (j, want) ∧ (ops[j]?).bind (·.dst) = some t ∧ t < n ∧ (dO X.P X.ms ty ts n ops o).g = some (t, want)) (hp : ∀ u, u ∈ D.looksAt ops.toList o → ¬ pend u) :
    Region.wanted o (yielded ops tmps) = wanted t (sO (dO X.P X.ms ty ts n ops o)).g := by
  obtain ⟨hg, hg'⟩ | ⟨j, want, u, hg, hj, hu, hg'⟩ := hq
  · show _ = wanted t (sG (dO X.P X.ms ty ts n ops o).g)
    rw [hg']
    unfold Region.wanted
    rw [hg]; rfl
  · show _ = wanted t (sG (dO X.P X.ms ty ts n ops o).g)
    rw [hg']
    have hmem : u ∈ D.looksAt ops.toList o := by
      unfold D.looksAt
      rw [hg]
      refine List.mem_append.2 (.inr ?_)
      simp only [Array.getElem?_toList, hj, Option.toList_some, List.mem_singleton]
    have hr := h.2.2 u (Nat.lt_trans hu h.2.1) (hp u hmem)
    unfold Region.wanted
    rw [hg]
    show (yielded ops tmps j == some want) = isB (T.get undV (paOf u) t) want
    unfold yielded
    rw [hj]
    show ((match (tmps[u]? : Option Value) with | some (.bool b) => some b | _ => none) == some want) = _
    have hlt : u < tmps.size := by rw [h.1]; exact hu
    have hget : tmps.getD u undef = tmps[u] := by rw [Array.getD_eq_getD_getElem?, Array.getElem?_eq_getElem hlt]; rfl
    rw [hget] at hr
    rw [Array.getElem?_eq_getElem hlt]
    by_cases c : ∃ x, tmps[u] = .bool x
    · obtain ⟨x, hx⟩ := c
      rw [hx] at hr ⊢
      rw [rv_bool_inv (X := X) hr]
      cases x <;> cases want <;> rfl
    · have h1 : isB (T.get undV (paOf u) t) want = false := by
        cases hv : T.get undV (paOf u) t <;> first | rfl | skip
        rename_i x
        rw [hv] at hr
        exact absurd ⟨x, rv_b (X := X) hr⟩ c
      rw [h1]
      cases hz : tmps[u] <;> first | rfl | exact absurd ⟨_, hz⟩ c
theorem wanted_eq {μ : Mu} {t : TV} {tmps : Array Value} {pend : Nat → Prop} (h : TmpRel X.ms μ n t tmps pend) (hq : (dO X.P X.ms ty ts n ops o).op ≠ .bad) (hp : ∀ u, u ∈ D.looksAt ops.toList o → ¬ pend u) :
    Region.wanted o (yielded ops tmps) = wanted t (sO (dO X.P X.ms ty ts n ops o)).g := by
  obtain ⟨_, ⟨hb, _⟩ | ⟨_, _, hg⟩⟩ := dO_inv (X := X) (ty := ty) (ts := ts) (n := n) (ops := ops) (o := o)
  · exact absurd hb hq
  · exact wanted_good h hg hp
end
end PH.R
/-
  The reckoner: regions that draw their order: what is done ahead.
-/
namespace PH.R
open Go Go.RowKit
section
variable {X : Cx} {t t' : TV} {h h' : H}
theorem sD_some {d : Option Nat} {p : Pa} (e : sD d = some p) : ∃ u, d = some u ∧ p = paOf u := by
  cases d with
  | none => cases e
  | some u => cases e; exact ⟨u, rfl, rfl⟩
theorem wanted_keep {d : D.O} (ha : agree d.uses t t') : wanted t' (sO d).g = wanted t (sO d).g := by
  show wanted t' (sG d.g) = wanted t (sG d.g)
  cases hg : d.g with
  | none => rfl
  | some g =>
    obtain ⟨u, b⟩ := g
    show isB (T.get undV (paOf u) t') b = isB (T.get undV (paOf u) t) b
    rw [ha u (by unfold D.O.uses; rw [hg]; simp)]
theorem agree.op {d : D.O} (ha : agree d.uses t t') : agree d.op.uses t t' := fun u hu => ha u (List.mem_append.2 (.inr hu))
open Classical in
theorem Res.keep {d : D.O} (hR : Res X t h (sO d)) (ha : agree d.uses t t') (hd : ∀ u, d.d = some u → T.get undV (paOf u) t' = T.get undV (paOf u) t) (hl : H.le h h') : Res X t' h' (sO d) := by
  obtain ⟨h1, h2⟩ := hR
  refine ⟨fun hw => ?_, fun hw p hp => ?_⟩
  · rw [wanted_keep ha] at hw
    have h1 := h1 hw
    revert h1
    cases hs : (sO d).s with
    | q f =>
      rintro ⟨v, a1, a2⟩
      refine ⟨v, fun p hp => ?_, fun k hk => ?_⟩
      · obtain ⟨u, hu, rfl⟩ := sD_some hp
        rw [hd u hu]; exact a1 _ hp
      · obtain ⟨u, b1, b2⟩ := nq hs (a2 (fun u => decide (u = v)) (by simp))
        have : u = v := by simpa using b1
        subst this
        exact b2 t' h' ha.op hl k hk
    | a f =>
      rintro ⟨p, x, mk, b, y, a1, a2, a3, a4, a5, a6⟩
      obtain ⟨u, hu, rfl⟩ := sD_some a1
      refine ⟨_, x, mk, b, y, a1, by rw [hd u hu]; exact a2, by rw [hd u hu]; exact a3, hl _ _ a4, a5, fun k hk => ?_⟩
      obtain ⟨x', mk', b1, _, b2⟩ := nA hs (a6 (fun u v => decide (u = x ∧ v = mk)) (by simp))
      have : x' = x ∧ mk' = mk := by simpa using b1
      obtain ⟨rfl, rfl⟩ := this
      exact b2 t' ha.op k hk
    | l f => exact fun h => h.elim
  · rw [wanted_keep ha] at hw
    obtain ⟨u, hu, rfl⟩ := sD_some hp
    rw [hd u hu]; exact h2 hw _ hp
theorem same_res {d : D.O} (q : same t h (sO d) = true) (hq : ∃ u, d.d = some u) : Res X t h (sO d) := by
  obtain ⟨u, hu⟩ := hq
  have hdd : (sO d).d = some (paOf u) := by show sD d.d = _; rw [hu]; rfl
  unfold same at q
  rw [bc_eq] at q
  refine ⟨fun hw => ?_, fun hw p hp => ?_⟩
  · rw [if_pos hw] at q
    revert q
    cases hs : (sO d).s with
    | q f =>
      intro q
      simp only at q
      obtain ⟨v, b1, b2⟩ := nq hs q
      rw [hdd] at b1
      have b1 : vEq (T.get undV (paOf u) t) v = true := b1
      exact ⟨v, fun p hp => by rw [hdd] at hp; cases hp; exact vEq_true _ _ b1, fun k hk => b2 t h (fun _ _ => rfl) (H.le_refl h) k hk⟩
    | a f =>
      intro q
      simp only at q
      obtain ⟨x, mk, b1, b2, b3⟩ := nA hs q
      rw [hdd] at b1
      obtain ⟨b, hb, b1⟩ := ob_true.1 (show ob (idOf (T.get undV (paOf u) t)) (fun b => vEq (T.get undV (paOf u) t) (mk b) && objEq x (h.get b)) = true from b1)
      obtain ⟨c1, c2⟩ := (Bool.and_eq_true ..).mp b1
      cases hy : h.get b with
      | none => rw [hy] at c2; exact absurd c2 (by simp [objEq])
      | some y =>
        rw [hy] at c2
        have := objEq_true c2
        subst this
        exact ⟨_, x, mk, b, x, hdd, vEq_true _ _ c1, hb, hy, fun _ _ _ h => h, fun k hk => b3 t (fun _ _ => rfl) k hk⟩
    | l f => intro q; cases q
  · rw [hw] at q
    rw [hdd] at hp; cases hp
    rw [if_neg (by simp), hdd] at q
    exact vEq_true _ _ q
end

section
variable {X : Cx} {ty : Nat → Option D.Ty} {ts : List (Nat × TE)} {n : Nat} {ops : Array Oper} {done lc : Nat} {ps : List D.PS} {idxs : List Nat}
theorem clo_lt (he : D.edgesOk ops.toList = true) {i j : Nat} (h : ((clo ops).getD i 0).testBit j = true) : j < i := by
  obtain ⟨m, hm, h⟩ := clo_step h
  have hlt := edges_lt he hm
  rcases h with rfl | h
  · exact hlt
  · exact clo_closed he (Q := fun m => m < i) (fun a b ha hb => Nat.lt_trans (edges_lt he hb) ha) m j hlt h
theorem Reg.hex {i : Nat} (R : Reg X ty ts n ops done lc ps (i :: idxs)) {j : Nat} (hj : ((clo ops).getD i 0).testBit j = true) : j ∉ i :: idxs := by
  obtain ⟨m, hm, hj⟩ := clo_step hj
  have h1 : ∀ m, bound ops i m → m < ops.size ∧ m ∉ i :: idxs := fun m hm => ⟨Nat.lt_trans (edges_lt R.edges hm) (R.lt i (by simp)), R.ord [] i idxs rfl m hm⟩
  rcases hj with rfl | hj
  · exact (h1 m hm).2
  · exact (clo_closed R.edges (Q := fun m => m < ops.size ∧ m ∉ i :: idxs) (fun a b ⟨q1, q2⟩ hab => ⟨Nat.lt_trans (edges_lt R.edges hab) q1, R.mclosed a b q1 q2 hab⟩) m j (h1 m hm) hj).2
/-- What the operation at the head looks at is not pending. -/
theorem Reg.seen {i : Nat} {o : Oper} (R : Reg X ty ts n ops done lc ps (i :: idxs)) (ho : ops[i]? = some o) {u : Nat} (hu : u ∈ D.looksAt ops.toList o) : ¬ pendOf ops done (i :: idxs) u := by
  rintro ⟨j, oj, ⟨h1, h2⟩, h3, h4⟩
  obtain ⟨_, d, hd, hs⟩ := ssa_at R.ssa h3 (R.loud j oj h1 h2 h3)
  rw [h4] at hd; cases hd
  exact R.hex ((hs i o ho).2 hu) h1
/-- What the machine has done ahead hangs on nothing that it does now. -/
theorem Reg.free {i j : Nat} {o oj : Oper} {d : Nat} (he : D.edgesOk ops.toList = true) (hssa : D.ssaOk ops.toList (dOs X.P X.ms ty ts n ops) (clo ops) = true) (hcl : ∀ i j, done.testBit i = true → bound ops i j → done.testBit j = true) (ho : ops[i]? = some o) (hq : D.loudO (dO X.P X.ms ty ts n ops o).op = false) (hd : o.dst = some d) (hi : done.testBit i = false) (hoj : ops[j]? = some oj) (hj : done.testBit j = true) :
    d ∉ D.looksAt ops.toList oj ∧ oj.dst ≠ some d := by
  obtain ⟨_, d', hd', hs⟩ := ssa_at hssa ho hq
  rw [hd] at hd'; cases hd'
  have hne : j ≠ i := fun c => by rw [c, hi] at hj; cases hj
  refine ⟨fun c => ?_, (hs j oj hoj).1 hne⟩
  have := clo_closed he hcl j i hj ((hs j oj hoj).2 c)
  rw [hi] at this; cases this

variable {μ : Mu} {ls : T (Option Lp)} {w0 w : World} {lo : Nat} {tmps : Array Value}
theorem isP_set {i j : Nat} (hin : i ∈ idxs) : isP (done ||| 2 ^ i) idxs j ↔ isP done idxs j ∨ j = i := by
  unfold isP
  rw [tb_set]
  constructor
  · rintro ⟨a, b | b⟩
    · exact .inl ⟨a, b⟩
    · exact .inr b.symm
  · rintro (⟨a, b⟩ | rfl)
    · exact ⟨a, .inl b⟩
    · exact ⟨hin, .inr rfl⟩
theorem sPSs_q (o : D.O) (l : List D.PS) : sPSs (.q o :: l) = .q (sO o) :: sPSs l := rfl
/-- The quiet operations that may be done are done. -/
theorem batch_ok {K : List PS → TV → H → Bool} : ∀ (ps : List D.PS) (done : Nat) (t : TV) (h : H), HRel X μ h ls w0 w → lo ≤ h.next → Reg X ty ts n ops done lc ps idxs → Pnd X ty ts μ lo h.next t n ops done idxs → (∀ i, isP done idxs i → Res X t h (om X.P X.ms ty ts n ops i)) →
    TmpRel X.ms μ n t tmps (pendOf ops done idxs) → batch K (sPSs ps) t h = true →
    ∃ ps' done' t' h', K (sPSs ps') t' h' = true ∧ (ps' = [] ∨ ∃ o re ps'', ps' = .l o re :: ps'') ∧ HRel X μ h' ls w0 w ∧ h.next ≤ h'.next ∧ Reg X ty ts n ops done' lc ps' idxs ∧ Pnd X ty ts μ lo h'.next t' n ops done' idxs ∧ (∀ i, isP done' idxs i → Res X t' h' (om X.P X.ms ty ts n ops i)) ∧ TmpRel X.ms μ n t' tmps (pendOf ops done' idxs)
  | [], done, t, h, R, _, G, Pn, Rs, A, q => ⟨[], done, t, h, q, .inl rfl, R, Nat.le_refl _, G, Pn, Rs, A⟩
  | .l o re :: ps, done, t, h, R, _, G, Pn, Rs, A, q => ⟨.l o re :: ps, done, t, h, q, .inr ⟨o, re, ps, rfl⟩, R, Nat.le_refl _, G, Pn, Rs, A⟩
  | .q o :: ps, done, t, h, R, hlo, G, Pn, Rs, A, q => by
    obtain ⟨i, oo, hoo, rfl, hq, hin, hnd, hb, G'⟩ := G.quiet
    obtain ⟨hu, d, hd, hs⟩ := ssa_at G.ssa hoo hq
    have hbad : (dO X.P X.ms ty ts n ops oo).op ≠ .bad := fun e => by rw [e, loud_bad] at hq; cases hq
    obtain ⟨hdd, ⟨e, _⟩ | ⟨hdn, hop, _⟩⟩ := dO_inv (X := X) (ty := ty) (ts := ts) (n := n) (ops := ops) (o := oo)
    · exact absurd e hbad
    have hdn := hdn d hd
    have hdb : d < big := Nat.lt_trans hdn A.2.1
    have hod : (sO (dO X.P X.ms ty ts n ops oo)).d = some (paOf d) := by show sD (dO X.P X.ms ty ts n ops oo).d = _; rw [hdd, hd]; rfl
    -- what the step leaves of the others
    have hfree : ∀ j oj, ops[j]? = some oj → done.testBit j = true → d ∉ D.looksAt ops.toList oj ∧ oj.dst ≠ some d := fun j oj hoj hj => Reg.free G.edges G.ssa G.closed hoo hq hd hnd hoj hj
    have hself : d ∉ D.looksAt ops.toList oo := fun c => by
      have := clo_lt G.edges ((hs i oo hoo).2 c); omega
    have step : ∀ (v : V) (h1 : H), H.le h h1 → HRel X μ h1 ls w0 w → h.next ≤ h1.next → Res X (putD (some (paOf d)) v t) h1 (sO (dO X.P X.ms ty ts n ops oo)) →
        (∀ f b, (sO (dO X.P X.ms ty ts n ops oo)).s = .a f → idOf v = some b → μ b = none ∧ h.next ≤ b.num ∧ b.num < h1.next) → batch K (sPSs ps) (putD (some (paOf d)) v t) h1 = true →
        ∃ ps' done' t' h', K (sPSs ps') t' h' = true ∧ (ps' = [] ∨ ∃ o re ps'', ps' = .l o re :: ps'') ∧ HRel X μ h' ls w0 w ∧ h.next ≤ h'.next ∧ Reg X ty ts n ops done' lc ps' idxs ∧ Pnd X ty ts μ lo h'.next t' n ops done' idxs ∧ (∀ i, isP done' idxs i → Res X t' h' (om X.P X.ms ty ts n ops i)) ∧ TmpRel X.ms μ n t' tmps (pendOf ops done' idxs) := by
      intro v h1 hl1 R1 hn1 hres hnew q1
      have hget : ∀ u, u < big → u ≠ d → T.get undV (paOf u) (putD (some (paOf d)) v t) = T.get undV (paOf u) t := fun u hu hne => by rw [get_putD hdb hu, if_neg hne]
      have hgd : T.get undV (paOf d) (putD (some (paOf d)) v t) = v := by rw [get_putD hdb hdb, if_pos rfl]
      have hkeep : ∀ j oj, isP done idxs j → ops[j]? = some oj → ∀ u, (dO X.P X.ms ty ts n ops oj).d = some u → T.get undV (paOf u) (putD (some (paOf d)) v t) = T.get undV (paOf u) t := fun j oj hj hoj u hu => by
        have hqj := G.loud j oj hj.1 hj.2 hoj
        obtain ⟨hdj, ⟨e, _⟩ | ⟨hdnj, _⟩⟩ := dO_inv (X := X) (ty := ty) (ts := ts) (n := n) (ops := ops) (o := oj)
        · rw [e, loud_bad] at hqj; cases hqj
        rw [hdj] at hu
        exact hget u (Nat.lt_trans (hdnj u hu) A.2.1) fun c => (hfree j oj hoj hj.2).2 (by rw [hu, c])
      have hidk : ∀ j f p, isP done idxs j → (om X.P X.ms ty ts n ops j).s = .a f → (om X.P X.ms ty ts n ops j).d = some p → T.get undV p (putD (some (paOf d)) v t) = T.get undV p t := fun j f p hj _ hp => by
        obtain ⟨oj, hoj⟩ := has_op (G.lt j hj.1)
        rw [om_get hoj] at hp
        obtain ⟨u, hu, rfl⟩ := sD_some hp
        exact hkeep j oj hj hoj u hu
      have homi : om X.P X.ms ty ts n ops i = sO (dO X.P X.ms ty ts n ops oo) := om_get hoo
      have Pn1 : Pnd X ty ts μ lo h1.next (putD (some (paOf d)) v t) n ops (done ||| 2 ^ i) idxs := by
        refine ⟨fun j f p b hj hf hp hid => ?_, fun j m f g p p' b hj hm hjm hf hg hp hp' hid hid' => ?_⟩
        · rcases (isP_set hin).1 hj with hj | rfl
          · rw [hidk j f p hj hf hp] at hid
            obtain ⟨b1, b2, b3⟩ := Pn.free j f p b hj hf hp hid
            exact ⟨b1, b2, Nat.lt_of_lt_of_le b3 hn1⟩
          · rw [homi] at hf hp
            rw [hod] at hp; cases hp
            rw [hgd] at hid
            obtain ⟨b1, b2, b3⟩ := hnew f b hf hid
            exact ⟨b1, Nat.le_trans hlo b2, b3⟩
        · rcases (isP_set hin).1 hj with hj | rfl
          · rw [hidk j f p hj hf hp] at hid
            obtain ⟨c1, c2, c3⟩ := Pn.free j f p b hj hf hp hid
            rcases (isP_set hin).1 hm with hm | rfl
            · rw [hidk m g p' hm hg hp'] at hid'
              exact Pn.inj j m f g p p' b hj hm hjm hf hg hp hp' hid hid'
            · rw [homi] at hg hp'
              rw [hod] at hp'; cases hp'
              rw [hgd] at hid'
              obtain ⟨b1, b2, b3⟩ := hnew g b hg hid'
              omega
          · rw [homi] at hf hp
            rw [hod] at hp; cases hp
            rw [hgd] at hid
            obtain ⟨b1, b2, b3⟩ := hnew f b hf hid
            rcases (isP_set hin).1 hm with hm | rfl
            · rw [hidk m g p' hm hg hp'] at hid'
              obtain ⟨c1, c2, c3⟩ := Pn.free m g p' b hm hg hp' hid'
              omega
            · exact hjm rfl
      have Rs1 : ∀ j, isP (done ||| 2 ^ i) idxs j → Res X (putD (some (paOf d)) v t) h1 (om X.P X.ms ty ts n ops j) := fun j hj => by
        rcases (isP_set hin).1 hj with hj | rfl
        · obtain ⟨oj, hoj⟩ := has_op (G.lt j hj.1)
          have hqj := G.loud j oj hj.1 hj.2 hoj
          obtain ⟨huj, _⟩ := ssa_at G.ssa hoj hqj
          have := Rs j hj
          rw [om_get hoj] at this ⊢
          exact this.keep (fun u hu => hget u (huj u hu).1 fun c => (hfree j oj hoj hj.2).1 (by rw [← c]; exact (huj u hu).2)) (hkeep j oj hj hoj) hl1
        · rw [homi]; exact hres
      have A1 : TmpRel X.ms μ n (putD (some (paOf d)) v t) tmps (pendOf ops (done ||| 2 ^ i) idxs) := by
        have := A.one (dst := some d) (v := v) (pend' := pendOf ops (done ||| 2 ^ i) idxs) (fun d' e => by cases e; exact hdn) (fun u ⟨j, oj, a, b, c⟩ => ⟨j, oj, (isP_set hin).2 (.inl a), b, c⟩) (fun u e => by cases e; exact ⟨i, oo, (isP_set hin).2 (.inr rfl), hoo, hd⟩)
        exact this
      obtain ⟨ps', done', t', h', b1, b2, b3, b4, b5⟩ := batch_ok ps _ _ h1 R1 (Nat.le_trans hlo hn1) G' Pn1 Rs1 A1 q1
      exact ⟨ps', done', t', h', b1, b2, b3, Nat.le_trans hn1 b4, b5⟩
    have hag : ∀ v, agree (dO X.P X.ms ty ts n ops oo).uses t (putD (some (paOf d)) v t) := fun v u hu' => by
      rw [get_putD hdb (hu u hu').1, if_neg (fun c => hself (by rw [← c]; exact (hu u hu').2))]
    have hgd : ∀ v, T.get undV (paOf d) (putD (some (paOf d)) v t) = v := fun v => by rw [get_putD hdb hdb, if_pos rfl]
    have q : bc (wanted t (sO (dO X.P X.ms ty ts n ops oo)).g) (doS (sO (dO X.P X.ms ty ts n ops oo)) t h (fun _ => false) (batch K (sPSs ps))) (batch K (sPSs ps) (putD (sO (dO X.P X.ms ty ts n ops oo)).d undV t) h) = true := q
    rw [bc_eq] at q
    by_cases hw : wanted t (sO (dO X.P X.ms ty ts n ops oo)).g = true
    · rw [if_pos hw] at q
      revert q
      cases hsop : (sO (dO X.P X.ms ty ts n ops oo)).s with
      | q f =>
        intro q
        have q : f t h (fun v => batch K (sPSs ps) (putD (sO (dO X.P X.ms ty ts n ops oo)).d v t) h) = true := by
          unfold doS at q
          rw [hsop] at q
          exact q
        obtain ⟨v, q1, q2⟩ := nq hsop q
        rw [hod] at q1
        refine step v h (H.le_refl h) R (Nat.le_refl _) ⟨fun _ => ?_, fun c => ?_⟩ (fun f' b e => by rw [hsop] at e; cases e) q1
        · rw [hsop]
          exact ⟨v, fun p hp => by rw [hod] at hp; cases hp; exact hgd v, fun k hk => q2 _ h (hag v).op (H.le_refl h) k hk⟩
        · rw [wanted_keep (hag v), hw] at c; cases c
      | a f =>
        intro q
        have q : f t (fun x mk => h.new x fun b h => batch K (sPSs ps) (putD (sO (dO X.P X.ms ty ts n ops oo)).d (mk b) t) h) = true := by
          unfold doS at q
          rw [hsop] at q
          exact q
        obtain ⟨x, mk, q1, q2, q3⟩ := nA hsop q
        obtain ⟨hn, h1, q1, hh⟩ := new_true' q1
        rw [hod] at q1
        have hnum : (paOf h.next).num = h.next := num_paOf hn
        obtain ⟨g1, g2, g3⟩ := H.get_none_of R (b := paOf h.next) (by omega)
        have hl1 : H.le h h1 := fun b y hy => by
          rw [hh.2, if_neg (fun c => by rw [c, g1] at hy; cases hy)]; exact hy
        refine step (mk (paOf h.next)) h1 hl1 (R.pend hn hh) (by rw [hh.1]; omega) ⟨fun _ => ?_, fun c => ?_⟩ (fun f' b e hid => ?_) q1
        · rw [hsop]
          exact ⟨_, x, mk, paOf h.next, x, hod, hgd _, by rw [hgd, q2], by rw [hh.2, if_pos rfl], fun _ _ _ h => h, fun k hk => q3 _ (hag _).op k hk⟩
        · rw [wanted_keep (hag _), hw] at c; cases c
        · rw [q2] at hid; cases hid
          exact ⟨g3, by omega, by rw [hh.1]; omega⟩
      | l f =>
        intro q
        unfold doS at q
        rw [hsop] at q
        cases q
    · rw [if_neg hw, hod] at q
      have hw : wanted t (sO (dO X.P X.ms ty ts n ops oo)).g = false := by simpa using hw
      refine step undV h (H.le_refl h) R (Nat.le_refl _) ⟨fun c => ?_, fun _ p hp => ?_⟩ (fun f' b e hid => by cases hid) q
      · rw [wanted_keep (hag _), hw] at c; cases c
      · rw [hod] at hp; cases hp; exact hgd _
end
end PH.R
/-
  The reckoner: regions that draw their order: the model does what the machine has done.
-/
namespace PH.R
open Go Go.RowKit
section
variable {X : Cx} {ty : Nat → Option D.Ty} {ts : List (Nat × TE)} {E : Env} {ops : Array Oper} {done lc : Nat} {ps : List D.PS}
variable {ls : T (Option Lp)} {w0 : World} {lo : Nat} {x : Fx} {t : TV} {h : H} {b : Frame} {m : List Item} {cs : List Frame}

theorem looks_op {ops : Array Oper} {o : Oper} {u : Nat} (h : Operand.tmp u ∈ o.op.operands.toList) : u ∈ D.looksAt ops.toList o :=
  List.mem_append.2 (.inl (List.mem_filterMap.2 ⟨.tmp u, h, rfl⟩))
theorem sOp_dfr {f : D.X} {a : List D.X} : sOp (.dfr f a) = .l (lDfr (sX f) (sXs a)) := rfl
theorem op_dfr {o : Oper} {d : D.Op} (hd : D.opOf ty X.ms ts X.P.globals.size o = some d) (hs : ∀ f a, d ≠ .dfr f a) (c : Call) : o.op ≠ .defer c := fun hc => by
  obtain ⟨dst, op, rt, pos, aft, g⟩ := o
  simp only at hc
  subst hc
  obtain ⟨args, ha, hd⟩ := bind_some hd
  split at hd
  · obtain ⟨f', hf, hd⟩ := bind_some hd
    obtain rfl := pure_some hd
    exact hs _ _ rfl
  · cases hd
theorem sem_at {o : Oper} {d : D.Op} (hd : D.opOf ty X.ms ts X.P.globals.size o = some d) (hs : ∀ f a, d ≠ .dfr f a) (ro : Option Nat) (ev : Operand → Value) : o.semAt ro ev = execOp ev o := Oper.semAt_eq ro ev o (op_dfr hd hs)
theorem not_dfr {d : D.Op} (h : (∃ f, sOp d = .q f) ∨ ∃ f, sOp d = .a f) : ∀ f a, d ≠ .dfr f a := fun f a e => by
  subst e
  rcases h with ⟨f, h⟩ | ⟨f, h⟩ <;> cases h
theorem act_put {a : Act} {dst : Option Nat} {z : Value} : (a.put dst z).tmps = match dst with | some d => a.tmps.setIfInBounds d z | none => a.tmps := by
  cases dst <;> rfl
theorem act_defers {a : Act} {dst : Option Nat} {z : Value} : (a.put dst z).defers = a.defers := by cases dst <;> rfl
theorem xs_ok {μ : Mu} {a : Act} {pend : Nat → Prop} {o : Oper} (A : ARel X μ x t pend b a) (hp : ∀ u, u ∈ D.looksAt ops.toList o → ¬ pend u) : Xs X μ t a.eval o.op.operands.toList := fun y hy => A.ev fun u e => hp u (looks_op (by rw [← e]; exact hy))
open Classical in
/-- One of them. -/
theorem ahead1 (Pg : Prg X ty ts E) {i : Nat} {idxs : List Nat} {a : Act} {μ : Mu} {w : World} (R : HRel X μ h ls w0 w) (G : Reg X ty ts x.n ops done lc ps (i :: idxs)) (Pn : Pnd X ty ts μ lo h.next t x.n ops done (i :: idxs))
    (Rs : ∀ j, isP done (i :: idxs) j → Res X t h (om X.P X.ms ty ts x.n ops j)) (A : ARel X μ x t (pendOf ops done (i :: idxs)) b a) (hi : done.testBit i = true) :
    ∃ a' μ' w', Go.step X.P (lone (b.atR a (.inRegion ops (i :: idxs) :: m)) cs w) = .next (lone (b.atR a' (.inRegion ops idxs :: m)) cs w') ∧ HRel X μ' h ls w0 w' ∧ Pnd X ty ts μ' lo h.next t x.n ops done idxs ∧ ARel X μ' x t (pendOf ops done idxs) b a' ∧
      Mu.le μ μ' ∧ ∀ b : Pa, b.num < lo → μ' b = μ b := by
  obtain ⟨oo, hoo⟩ := has_op (G.lt i (by simp))
  have hq := G.loud i oo (by simp) hi hoo
  obtain ⟨hu, d, hd, hs⟩ := ssa_at G.ssa hoo hq
  have hbad : (dO X.P X.ms ty ts x.n ops oo).op ≠ .bad := fun e => by rw [e, loud_bad] at hq; cases hq
  obtain ⟨hdd, ⟨e, _⟩ | ⟨hdn, hop, _⟩⟩ := dO_inv (X := X) (ty := ty) (ts := ts) (n := x.n) (ops := ops) (o := oo)
  · exact absurd e hbad
  have hdn := hdn d hd
  have hod : (sO (dO X.P X.ms ty ts x.n ops oo)).d = some (paOf d) := by show sD (dO X.P X.ms ty ts x.n ops oo).d = _; rw [hdd, hd]; rfl
  have hseen : ∀ u, u ∈ D.looksAt ops.toList oo → ¬ pendOf ops done (i :: idxs) u := fun u hu => G.seen hoo hu
  have hwt := wanted_eq A.tmp hbad hseen
  have hX := xs_ok (ops := ops) (o := oo) A hseen
  have S : Sit X ty ts μ h ls w0 w a.eval := ⟨Pg.tt, Pg.mm, Pg.tso, R, evOk a⟩
  have hSR := fun hnd => opOf_ok (t := t) S hX hop hnd
  have hres := Rs i ⟨by simp, hi⟩
  rw [om_get hoo] at hres
  have hP : ∀ j, isP done idxs j → isP done (i :: idxs) j := fun j hj => ⟨by simp [hj.1], hj.2⟩
  have hpend : ∀ u, pendOf ops done (i :: idxs) u → pendOf ops done idxs u ∨ d = u := fun u ⟨j, oj, a1, a2, a3⟩ => by
    rcases List.mem_cons.1 a1.1 with e | e
    · right
      rw [e, hoo] at a2; cases a2
      rw [hd] at a3; cases a3; rfl
    · exact .inl ⟨j, oj, ⟨e, a1.2⟩, a2, a3⟩
  have put : ∀ (μ' : Mu) (z : Value), Mu.le μ μ' → X.Rv μ' (T.get undV (paOf d) t) z → ARel X μ' x t (pendOf ops done idxs) b (a.put oo.dst z) := fun μ' z hle hz => by
    have A' := A.mono hle
    refine ⟨A'.fn, ?_, by rw [act_defers]; exact A'.dfs, A'.kd, A'.rnd⟩
    rw [act_put, hd]
    exact A'.tmp.other hdn hz hpend
  have Pn0 : ∀ μ', (∀ b, (∀ f, (om X.P X.ms ty ts x.n ops i).s = .a f → idOf (T.get undV (paOf d) t) = some b → False) → μ' b = μ b) → Pnd X ty ts μ' lo h.next t x.n ops done idxs := fun μ' hμ => by
    refine ⟨fun j f p b hj hf hp hid => ?_, fun j m f g p p' b hj hm => Pn.inj j m f g p p' b (hP j hj) (hP m hm)⟩
    obtain ⟨b1, b2, b3⟩ := Pn.free j f p b (hP j hj) hf hp hid
    refine ⟨?_, b2, b3⟩
    rw [hμ b fun f' hf' hid' => ?_]
    · exact b1
    · have hne : j ≠ i := fun c => (List.nodup_cons.1 G.nodup).1 (by rw [← c]; exact hj.1)
      exact Pn.inj j i f f' p (paOf d) b (hP j hj) ⟨by simp, hi⟩ hne hf hf' hp (by rw [om_get hoo]; exact hod) hid hid'
  by_cases hw : wanted t (sO (dO X.P X.ms ty ts x.n ops oo)).g = true
  · have hres := hres.1 hw
    rw [hw] at hwt
    revert hres
    cases hsop : (sO (dO X.P X.ms ty ts x.n ops oo)).s with
    | q f =>
      rintro ⟨v, r1, r2⟩
      have hsop' : sOp (dO X.P X.ms ty ts x.n ops oo).op = .q f := hsop
      have hSR := hSR (op_dfr hop (not_dfr (.inl ⟨f, hsop'⟩)))
      rw [hsop'] at hSR
      obtain ⟨v', z, b1, b2, b3⟩ := hSR (fun u => decide (u = v)) (r2 _ (by simp))
      have : v' = v := by simpa using b1
      subst this
      refine ⟨a.put oo.dst z, μ, w, ?_, R, Pn0 μ fun _ _ => rfl, put μ z (Mu.le_refl _) ?_, Mu.le_refl _, fun _ _ => rfl⟩
      · rw [← fin_eq hoo]
        exact stp_value hoo hwt (by rw [sem_at hop (not_dfr (.inl ⟨f, hsop'⟩))]; exact b3)
      · rw [r1 _ hod]; exact b2
    | a f =>
      rintro ⟨p, x1, mk, bb, y, r1, r2, r3, r4, r5, r6⟩
      rw [hod] at r1; cases r1
      have hsop' : sOp (dO X.P X.ms ty ts x.n ops oo).op = .a f := hsop
      have hSR := hSR (op_dfr hop (not_dfr (.inr ⟨f, hsop'⟩)))
      rw [hsop'] at hSR
      obtain ⟨x2, mk2, ob, z, w', off, cap, b1, b2, b3, b4⟩ := hSR (fun u v => decide (u = x1 ∧ v = mk)) (r6 _ (by simp))
      have : x2 = x1 ∧ mk2 = mk := by simpa using b1
      obtain ⟨rfl, rfl⟩ := this
      obtain ⟨f1, f2, f3⟩ := Pn.free i f (paOf d) bb ⟨by simp, hi⟩ (by rw [om_get hoo]; exact hsop) (by rw [om_get hoo]; exact hod) r3
      have hle := Mu.le_set (e := (⟨w.heap.size, off, cap⟩ : Ent)) f1
      obtain ⟨c1, c2⟩ := b4 bb _ hle (Mu.set_same μ bb ⟨w.heap.size, off, cap⟩)
      obtain ⟨R', _⟩ := R.born r4 f1 b3 (r5 _ _ _ c2)
      refine ⟨a.put oo.dst z, _, w', ?_, R', Pn0 _ fun q hq => Mu.set_ne μ _ fun c => hq f (by rw [om_get hoo]; exact hsop) (by rw [c]; exact r3), put _ z hle ?_, hle, fun q hq => Mu.set_ne μ _ fun c => by rw [c] at hq; omega⟩
      · rw [← fin_eq hoo]
        exact stp_value hoo hwt (by rw [sem_at hop (not_dfr (.inr ⟨f, hsop'⟩))]; exact b2)
      · rw [r2]; exact c1
    | l f => exact fun h => h.elim
  · have hw : wanted t (sO (dO X.P X.ms ty ts x.n ops oo)).g = false := by simpa using hw
    rw [hw] at hwt
    refine ⟨a.put oo.dst undef, μ, w, ?_, R, Pn0 μ fun _ _ => rfl, put μ undef (Mu.le_refl _) ?_, Mu.le_refl _, fun _ _ => rfl⟩
    · rw [← fin_eq hoo]
      exact stp_no hoo hwt
    · rw [hres.2 hw _ hod]; rfl
/-- All of them, up to what the machine has not done. -/
theorem ahead_ok (Pg : Prg X ty ts E) : ∀ (idxs : List Nat) {a : Act} {μ : Mu} {w : World}, HRel X μ h ls w0 w → Reg X ty ts x.n ops done lc ps idxs → Pnd X ty ts μ lo h.next t x.n ops done idxs →
    (∀ j, isP done idxs j → Res X t h (om X.P X.ms ty ts x.n ops j)) → ARel X μ x t (pendOf ops done idxs) b a →
    ∃ idxs' a' μ' w', Steps X.P (lone (b.atR a (.inRegion ops idxs :: m)) cs w) (lone (b.atR a' (.inRegion ops idxs' :: m)) cs w') ∧ HRel X μ' h ls w0 w' ∧ Reg X ty ts x.n ops done lc ps idxs' ∧ Pnd X ty ts μ' lo h.next t x.n ops done idxs' ∧
      (∀ j, isP done idxs' j → Res X t h (om X.P X.ms ty ts x.n ops j)) ∧ ARel X μ' x t (pendOf ops done idxs') b a' ∧ Mu.le μ μ' ∧ (∀ b : Pa, b.num < lo → μ' b = μ b) ∧ (idxs' = [] ∨ ∃ i r, idxs' = i :: r ∧ done.testBit i = false)
  | [], a, μ, w, R, G, Pn, Rs, A => ⟨[], a, μ, w, .refl _ _, R, G, Pn, Rs, A, Mu.le_refl _, fun _ _ => rfl, .inl rfl⟩
  | i :: idxs, a, μ, w, R, G, Pn, Rs, A => by
    cases hi : done.testBit i with
    | false => exact ⟨i :: idxs, a, μ, w, .refl _ _, R, G, Pn, Rs, A, Mu.le_refl _, fun _ _ => rfl, .inr ⟨i, idxs, rfl, hi⟩⟩
    | true =>
      obtain ⟨a1, μ1, w1, h1, R1, P1, A1, l1, k1⟩ := ahead1 (m := m) (cs := cs) Pg R G Pn Rs A hi
      obtain ⟨idxs', a', μ', w', h2, R2, G2, P2, Rs2, A2, l2, k2, e⟩ := ahead_ok Pg idxs R1 (G.model hi) P1 (fun j hj => Rs j ⟨by simp [hj.1], hj.2⟩) A1
      exact ⟨idxs', a', μ', w', .head h1 h2, R2, G2, P2, Rs2, A2, Mu.le_trans l1 l2, fun q hq => (k2 q hq).trans (k1 q hq), e⟩
end
end PH.R
/-
  The reckoner: a frame that waited goes on.
-/
namespace PH.R
open Go Go.RowKit
section
variable {X : Cx} {ty : Nat → Option D.Ty} {ts : List (Nat × TE)} {E : Env} {cs0 : List Frame} {w0 : World}
theorem sames_true {t : TV} {h : H} : ∀ {l : List D.O}, sames t h (sOs l) = true → ∀ d, d ∈ l → same t h (sO d) = true
  | [], _, d, hd => by cases hd
  | o :: l, q, d, hd => by
    obtain ⟨q1, q2⟩ := (Bool.and_eq_true ..).mp (show (same t h (sO o) && sames t h (sOs l)) = true from q)
    rcases List.mem_cons.1 hd with rfl | hd
    · exact q1
    · exact sames_true q2 d hd
theorem Wait.head_d {μ : Mu} {lo hi n : Nat} {t : TV} {ops : Array Oper} {i : Nat} {oo : Oper} (hoo : ops[i]? = some oo) : (om X.P X.ms ty ts n ops i).d = sD oo.dst := by
  rw [om_get hoo]
  show sD (dO X.P X.ms ty ts n ops oo).d = _
  rw [dO_inv.1]
theorem put_rel {μ : Mu} {x : Fx} {t : TV} {pend pend' : Nat → Prop} {b : Frame} {a : Act} {dst : Option Nat} {v : V} {z : Value} (A : ARel X μ x t pend b a) (hv : X.Rv μ v z) (hd : ∀ d, dst = some d → d < x.n) (hp : ∀ u, pend u → pend' u ∨ dst = some u) : ARel X μ x (putD (sD dst) v t) pend' b (a.put dst z) := by
  refine ⟨A.fn, ?_, by rw [act_defers]; exact A.dfs, A.kd, A.rnd⟩
  rw [act_put]
  have := A.tmp.both hv hd hp
  cases dst <;> exact this
theorem Sm.run {k : K} {t : TV} {todo : List I} {h : H} {r : Cf → Bool} {b : Frame} {a : Act} {items : List Item} {pend : Nat → Prop} {cs : List Frame} {μ : Mu} {lo : Nat} {w : World} (q : r (.run k t todo h) = true)
    (R : HRel X μ h k.ls w0 w) (hlo : lo ≤ h.next) (A : ARel X μ k.x t pend b a) (W : Rn X ty ts μ lo h.next k.x.n t h todo items pend) (C : CsRel X ty ts cs0 μ lo k.cs cs) : Sm X ty ts cs0 w0 r (lone (b.atR a items) cs w) :=
  ⟨.run k t todo h, _, .refl _ _, ⟨μ, lo, w, b, a, items, pend, cs, rfl, R, hlo, A, W, C⟩, q⟩
theorem go_ok {k : K} {t : TV} {todo : List I} {v : V} {h : H} {r : Cf → Bool} {b : Frame} {a : Act} {items : List Item} {pend : Nat → Prop} {cs : List Frame} {μ : Mu} {lo hi : Nat} {w : World} {z : Value}
    (R : HRel X μ h k.ls w0 w) (hlo : lo ≤ h.next) (A : ARel X μ k.x t pend b a) (W : Wait X ty ts μ lo hi k.x.n t todo items pend) (hhi : hi ≤ h.next) (C : CsRel X ty ts cs0 μ lo k.cs cs) (hv : X.Rv μ v z) (q : go k t todo v h r = true) :
    Sm X ty ts cs0 w0 r (lone ((b.atR a items).finish z) cs w) := by
  cases W with
  | @seq l m ops i idxs ht hlt hdst =>
    obtain ⟨oo, hoo⟩ := has_op (hlt i (by simp))
    rw [fin_eq hoo]
    have q : r (.run k (putD (om X.P X.ms ty ts k.x.n ops i).d v t) (.seq (idxs.map (om X.P X.ms ty ts k.x.n ops)) :: l) h) = true := q
    rw [om_get hoo] at q
    have q : r (.run k (putD (sD (dO X.P X.ms ty ts k.x.n ops oo).d) v t) (.seq (idxs.map (om X.P X.ms ty ts k.x.n ops)) :: l) h) = true := q
    rw [dO_inv.1] at q
    exact Sm.run q R hlo (put_rel A hv (fun d e => hdst oo d hoo e) (fun u c => c.elim)) (.seq ht fun j hj => hlt j (by simp [hj])) C
  | @rd l m ops done lc o re ps i idxs ht G hnd Pn hdst =>
    obtain ⟨oo, re', ps', f, hoo, e, hloud, hb, hre, hp⟩ := G.head hnd (.inr ⟨_, _, _, rfl⟩)
    injection e with e1 e2
    injection e1 with e3 e4
    subst e2 e3 e4
    rw [fin_eq hoo]
    have q : ok (sames (putD (sD (dO X.P X.ms ty ts k.x.n ops oo).d) v t) h (sOs re)) (batch (rdK k l r) (sPSs ps) (putD (sD (dO X.P X.ms ty ts k.x.n ops oo).d) v t) h) = true := q
    rw [dO_inv.1] at q
    obtain ⟨q1, q2⟩ := ok_true.1 q
    have G1 := G.both hb hp
    have hni : i ∉ idxs := (List.nodup_cons.1 G.nodup).1
    have hP : ∀ j, isP (done ||| 2 ^ i) idxs j → isP done (i :: idxs) j ∧ j ≠ i := fun j hj => by
      have hne : j ≠ i := fun c => hni (by rw [← c]; exact hj.1)
      rcases tb_set.1 hj.2 with c | c
      · exact ⟨⟨by simp [hj.1], c⟩, hne⟩
      · exact absurd c.symm hne
    have hget : ∀ j f p, isP (done ||| 2 ^ i) idxs j → (om X.P X.ms ty ts k.x.n ops j).s = .a f → (om X.P X.ms ty ts k.x.n ops j).d = some p → T.get undV p (putD (sD oo.dst) v t) = T.get undV p t := fun j f p hj _ hpd => by
      obtain ⟨hj', hne⟩ := hP j hj
      obtain ⟨oj, hoj⟩ := has_op (G.lt j hj'.1)
      have hqj := G.loud j oj hj'.1 hj'.2 hoj
      obtain ⟨_, d, hd, hs⟩ := ssa_at G.ssa hoj hqj
      rw [om_get hoj] at hpd
      obtain ⟨u, hu, rfl⟩ := sD_some hpd
      obtain ⟨hdj, ⟨e, _⟩ | ⟨hdnj, _⟩⟩ := dO_inv (X := X) (ty := ty) (ts := ts) (n := k.x.n) (ops := ops) (o := oj)
      · rw [e, loud_bad] at hqj; cases hqj
      rw [hdj, hd] at hu
      cases hu
      cases hdd : oo.dst with
      | none => rfl
      | some d' =>
        have hd'n := hdst oo d' hoo hdd
        show T.get undV (paOf d) (putD (some (paOf d')) v t) = _
        rw [get_putD (Nat.lt_trans hd'n A.tmp.2.1) (Nat.lt_trans (hdnj d hd) A.tmp.2.1), if_neg]
        intro c
        exact (hs i oo hoo).1 (Ne.symm hne) (by rw [hdd, c])
    have Pn1 : Pnd X ty ts μ lo h.next (putD (sD oo.dst) v t) k.x.n ops (done ||| 2 ^ i) idxs := by
      refine ⟨fun j f p bb hj hf hpd hid => ?_, fun j m f g p p' bb hj hm hjm hf hg hpd hpd' hid hid' => ?_⟩
      · rw [hget j f p hj hf hpd] at hid
        obtain ⟨b1, b2, b3⟩ := Pn.free j f p bb (hP j hj).1 hf hpd hid
        exact ⟨b1, b2, Nat.lt_of_lt_of_le b3 hhi⟩
      · rw [hget j f p hj hf hpd] at hid
        rw [hget m g p' hm hg hpd'] at hid'
        exact Pn.inj j m f g p p' bb (hP j hj).1 (hP m hm).1 hjm hf hg hpd hpd' hid hid'
    have Rs1 : ∀ j, isP (done ||| 2 ^ i) idxs j → Res X (putD (sD oo.dst) v t) h (om X.P X.ms ty ts k.x.n ops j) := fun j hj => by
      obtain ⟨hj', hne⟩ := hP j hj
      obtain ⟨oj, hoj⟩ := has_op (G.lt j hj'.1)
      have hqj := G.loud j oj hj'.1 hj'.2 hoj
      obtain ⟨_, d, hd, hs⟩ := ssa_at G.ssa hoj hqj
      rw [om_get hoj]
      have hin := hre j oj hoj hj'.2 (by
        rw [Nat.testBit_or, Bool.or_eq_false_iff]
        refine ⟨G.lc j hj'.1, ?_⟩
        cases c : ((clo ops).getD i 0).testBit j with
        | false => rfl
        | true => exact absurd hj'.1 (G.hex c)) hqj
      exact same_res (sames_true q1 _ hin) ⟨d, by rw [dO_inv.1]; exact hd⟩
    have A1 := put_rel (pend' := pendOf ops (done ||| 2 ^ i) idxs) A hv (fun d e => hdst oo d hoo e) (fun u ⟨j, oj, a1, a2, a3⟩ => by
      left
      refine ⟨j, oj, ⟨?_, tb_set.2 (.inl a1.2)⟩, a2, a3⟩
      rcases List.mem_cons.1 a1.1 with c | c
      · have := a1.2
        rw [c, hnd] at this; cases this
      · exact c)
    obtain ⟨ps2, done2, t2, h2, b1, b2, b3, b4, b5, b6, b7, b8⟩ := batch_ok ps _ _ h R hlo G1 Pn1 Rs1 A1.tmp q2
    have b1 : r (.run k t2 (.rd (sPSs ps2) :: l) h2) = true := b1
    exact Sm.run b1 b3 (Nat.le_trans hlo b4) ⟨A1.fn, b8, A1.dfs, A1.kd, A1.rnd⟩ (.rd ht b5 b6 b7 b2) C
  | @rf l m p e ht he =>
    rw [finish_atR_inRangeFunc]
    exact Sm.run q R hlo A (.erf ht he) C
end
end PH.R
/-
  The reckoner: functions of the library that have no body.
-/
namespace PH.R
open Go Go.RowKit
section
variable {X : Cx} {μ : Mu} {h : H} {ls : T (Option Lp)} {w0 w : World} {kk : V → H → Bool}
/-- What such a function is. -/
def extSem (P : Program) (e : Ext) (results : Array TypeId) (s : Array Value → Sem Value) : Prop := match e with
  | .load k => s = Extern.Atomic.loadT (.int k)
  | .store => s = Extern.Atomic.storeT
  | .add k => s = Extern.Atomic.update (Op.intArith .add) k true
  | .cas k => s = Extern.Atomic.casT (.int k)
  | .nop => ∃ m, s = fun _ => (do mark m; pure (.tuple #[]))
  | .nopA => ∃ m, s = Extern.Race.marked m
  | .same => s = Extern.AbiNoEscape.same
  | .idxByte => s = Extern.BytealgIndexByte.indexByte
  | .noZero el => ∃ params, s = Extern.BytealgMakeNoZero.makeNoZero params results ∧ ∃ t, results[0]? = some t ∧ P.underlying t = some (.slice el)
theorem run_store_cell {P : Program} {a : Addr} {v x : Value} {w' : World} (hc : w.cell? a = some x) (h : (storeCells a [v]).run P w = .ok () w') (m : Mode) : (store a v m).run P w = .ok () w' := by
  have e : a.add 0 = a := by unfold Addr.add; simp
  unfold storeCells at h
  rw [e, Sem.run_bind] at h
  unfold store at h ⊢
  cases v <;> simp only [Sem.run, hc] at h ⊢ <;> first | (cases h; done) | skip
  all_goals (split at h <;> first | (cases h; done) | (rename_i hf; rw [if_neg hf]; exact h))
theorem rvs_one {l : List V} {L : List Value} (h : X.Rvs μ l L) (a : V) (e : l = [a]) : ∃ A, L = [A] ∧ X.Rv μ a A := by
  subst e
  obtain ⟨A, r, h1, h2, rfl⟩ := (concs_cons X.ms).1 h
  cases h2
  exact ⟨A, rfl, h1⟩
theorem rvs_two {l : List V} {L : List Value} (h : X.Rvs μ l L) (a b : V) (e : l = [a, b]) : ∃ A B, L = [A, B] ∧ X.Rv μ a A ∧ X.Rv μ b B := by
  subst e
  obtain ⟨A, r, h1, h2, rfl⟩ := (concs_cons X.ms).1 h
  obtain ⟨B, e, h3⟩ := rvs_one h2 b rfl
  exact ⟨A, B, by rw [e], h1, h3⟩
theorem rvs_three {l : List V} {L : List Value} (h : X.Rvs μ l L) (a b c : V) (e : l = [a, b, c]) : ∃ A B C, L = [A, B, C] ∧ X.Rv μ a A ∧ X.Rv μ b B ∧ X.Rv μ c C := by
  subst e
  obtain ⟨A, r, h1, h2, rfl⟩ := (concs_cons X.ms).1 h
  obtain ⟨B, C, e, h3, h4⟩ := rvs_two h2 b c rfl
  exact ⟨A, B, C, by rw [e], h1, h3, h4⟩
theorem li_one {v : V} {z : Value} (h : X.Rv μ v z) : ∀ i u, (Row.li [v]).at i = some u → ∃ y, [z][i]? = some y ∧ X.Rv μ u y := fun i u hu => by
  cases i with
  | zero => cases hu; exact ⟨z, rfl, h⟩
  | succ i => exact absurd hu (by simp [Row.at])
theorem digits_size : ∀ (n t : Nat) (acc : Array Value), (Extern.BytealgMakeNoZero.digits n t acc).size = acc.size + n
  | 0, _, _ => rfl
  | n + 1, t, acc => by rw [Extern.BytealgMakeNoZero.digits, digits_size n]; simp; omega
theorem findB_eq {len n c : Nat} (hc : c < 256) : ∀ (k i : Nat), i + k = len → findB n c k i = match (List.range' i k).find? (fun j => (bytesOf len n)[j]! == (c : Int).toNat.toUInt8) with
    | some j => (j : Int)
    | none => -1
  | 0, i, _ => rfl
  | k + 1, i, h => by
    have hi : i < len := by omega
    have hget : (bytesOf len n)[i]! = UInt8.ofNat (byteAt n i) := by
      have := bytesOf_get len n i
      rw [if_pos hi] at this
      rw [getElem!_def, this]
    have hp : ((bytesOf len n)[i]! == (c : Int).toNat.toUInt8) = Nat.beq (byteAt n i) c := by
      rw [hget]
      apply Bool.eq_iff_iff.2
      rw [beq_iff_eq, Nat.beq_eq, Int.toNat_natCast]
      have hb : byteAt n i < 256 := by rw [byteAt_eq]; exact Nat.mod_lt _ (by decide)
      constructor
      · intro e
        have := congrArg UInt8.toNat e
        simp only [UInt8.toNat_ofNat', Nat.toUInt8] at this
        omega
      · intro e; rw [e]
    rw [List.range'_succ, List.find?_cons, hp]
    unfold findB
    rw [bc_eq]
    cases hb : Nat.beq (byteAt n i) c with
    | true => rfl
    | false =>
      rw [if_neg (by simp)]
      exact findB_eq hc k (i + 1) (by omega)
/-- What a function without a body answers. -/
theorem ext_ok (R : HRel X μ h ls w0 w) {args : List V} {L : List Value} (ha : X.Rvs μ args L) {e : Ext} (q : extV h args e kk = true) {results : Array TypeId} {s : Array Value → Sem Value} (hs : extSem X.P e results s) :
    ∃ v h' z w' μ', kk v h' = true ∧ (s L.toArray).run X.P w = .ok z w' ∧ Mu.ext h.next h'.next μ μ' ∧ X.Rv μ' v z ∧ HRel X μ' h' ls w0 w' := by
  cases e with
  | load ik =>
    subst hs
    unfold extV at q
    simp only at q
    split at q
    · rename_i a
      obtain ⟨A, rfl, hA⟩ := rvs_one ha a rfl
      obtain ⟨b, o, rfl, q1⟩ := asP_true q
      obtain ⟨e, he, rfl⟩ := rv_p hA
      obtain ⟨v, x, q2, hv, hc⟩ := load1_ok R he q1
      obtain ⟨k', n, rfl, q3⟩ := asI_true q2
      obtain ⟨c1, q4⟩ := ok_true.1 q3
      cases ikEq_eq c1
      cases rv_i hv
      refine ⟨_, h, .int ik n, w, μ, q4, ?_, Mu.ext_rfl (Nat.le_refl _), rfl, R⟩
      show Sem.run X.P (do Extern.Atomic.read (.int ik) (← asAddr (.pointer (some ⟨e.blk, e.off + o, none⟩)))) w = _
      rw [Sem.run_bind]
      show Sem.run X.P (Extern.Atomic.read (.int ik) ⟨e.blk, e.off + o, none⟩) w = _
      unfold Extern.Atomic.read
      rw [Sem.run_bind, run_load_cell hc, Result.andThen_ok]
      simp
    · cases q
  | store =>
    subst hs
    unfold extV at q
    simp only at q
    split at q
    · rename_i a v
      obtain ⟨A, B, rfl, hA, hB⟩ := rvs_two ha a v rfl
      obtain ⟨b, o, rfl, q1⟩ := asP_true q
      obtain ⟨e, he, rfl⟩ := rv_p hA
      obtain ⟨u, x, q2, hu, hc⟩ := load1_ok R he q1
      obtain ⟨h', w', hk, hrun, R', hnx, _⟩ := storeR_ok R he q2 (xs := [B]) rfl (li_one hB)
      refine ⟨undV, h', .tuple #[], w', μ, hk, ?_, Mu.ext_rfl (Nat.le_of_eq hnx.symm), rfl, R'⟩
      show Sem.run X.P (do store ⟨e.blk, e.off + o, none⟩ B .atomic; pure (Value.tuple #[])) w = _
      rw [Sem.run_bind, run_store_cell hc hrun, Result.andThen_ok]
      rfl
    · cases q
  | add ik =>
    subst hs
    unfold extV at q
    simp only at q
    split at q
    · rename_i a y
      obtain ⟨A, B, rfl, hA, hB⟩ := rvs_two ha a y rfl
      obtain ⟨b, o, rfl, q1⟩ := asP_true q
      obtain ⟨e, he, rfl⟩ := rv_p hA
      obtain ⟨ky, ny, rfl, q2⟩ := asI_true q1
      cases rv_i hB
      obtain ⟨v, x, q3, hv, hc⟩ := load1_ok R he q2
      obtain ⟨k', n, rfl, q4⟩ := asI_true q3
      obtain ⟨c1, q5⟩ := ok_true.1 q4
      cases ikEq_eq c1
      cases rv_i hv
      obtain ⟨nv, z, q6, hz, hop⟩ := iAdd_ok ik n ny _ q5
      obtain ⟨h', w', hk, hrun, R', hnx, _⟩ := storeR_ok R he q6 (xs := [z]) rfl (li_one (hz X μ))
      refine ⟨nv, h', z, w', μ, hk, ?_, Mu.ext_rfl (Nat.le_of_eq hnx.symm), hz X μ, R'⟩
      show Sem.run X.P (do
        let old ← Extern.Atomic.read (.int ik) ⟨e.blk, e.off + o, none⟩
        let new ← Op.intArith .add ik (← asInt old) (← asInt (.int ky ny))
        store ⟨e.blk, e.off + o, none⟩ new .atomic
        pure new) w = _
      have hread : (Extern.Atomic.read (.int ik) ⟨e.blk, e.off + o, none⟩).run X.P w = .ok (.int ik n) w := by
        unfold Extern.Atomic.read
        rw [Sem.run_bind, run_load_cell hc, Result.andThen_ok]
        simp
      have hadd : (Op.intArith .add ik n ny).run X.P w = .ok z w := by
        have := hop X.P w 0
        simp only [Go.binOp, ne_eq, not_true, if_false] at this
        exact this
      simp only [Sem.run_bind, hread, Result.andThen_ok, run_asInt, hadd, run_store_cell hc hrun, Sem.run_pure]
    · cases q
  | cas ik =>
    subst hs
    unfold extV at q
    simp only at q
    split at q
    · rename_i a y v
      obtain ⟨A, B, C, rfl, hA, hB, hC⟩ := rvs_three ha a y v rfl
      obtain ⟨b, o, rfl, q1⟩ := asP_true q
      obtain ⟨e, he, rfl⟩ := rv_p hA
      obtain ⟨ky, ny, rfl, q2⟩ := asI_true q1
      cases rv_i hB
      obtain ⟨r, fz, sz, el, hb, q3⟩ := asRow_true q2
      obtain ⟨c0, q4⟩ := ok_true.1 q3
      have c0 : fz ≤ o := by simpa using c0
      obtain ⟨c, f, h1, h2⟩ := R.rowAt hb he
      obtain ⟨u, hu, q5⟩ := Row.get_true q4
      obtain ⟨x, hx, hr⟩ := h2.cell o u hu
      obtain ⟨k', n, rfl, q6⟩ := asI_true q5
      obtain ⟨c1, q7⟩ := ok_true.1 q6
      cases ikEq_eq c1
      cases rv_i hr
      have hc : w.cell? ⟨e.blk, e.off + o, none⟩ = some (.int ik n) := by rw [cell_at h1]; exact hx
      have hsz := (Array.getElem?_eq_some_iff.1 hx).1
      have hfz : w.frozen? ⟨e.blk, e.off + o, none⟩ = false := by rw [frozen_at h1]; exact h2.free _ (by omega) hsz
      have hread : (Extern.Atomic.read (.int ik) ⟨e.blk, e.off + o, none⟩).run X.P w = .ok (.int ik n) w := by
        unfold Extern.Atomic.read
        rw [Sem.run_bind, run_load_cell hc, Result.andThen_ok]
        simp
      have htouch : (Extern.Atomic.touchesFrozen ⟨e.blk, e.off + o, none⟩).run X.P w = .ok false w := by
        unfold Extern.Atomic.touchesFrozen
        rw [Sem.run_bind, run_viewAt h1, Result.andThen_ok]
        show Result.ok (w.frozen? _) w = _
        rw [hfz]
      have hrun0 : ∀ w', (eqI n ny = true → (store ⟨e.blk, e.off + o, none⟩ C .atomic).run X.P w = .ok () w') → (eqI n ny = false → w' = w) → (Extern.Atomic.casT (.int ik) #[.pointer (some ⟨e.blk, e.off + o, none⟩), .int ky ny, C]).run X.P w = .ok (.bool (eqI n ny)) w' := fun w' hst hno => by
        show Sem.run X.P (do
          let a ← asAddr (.pointer (some ⟨e.blk, e.off + o, none⟩))
          if ← Extern.Atomic.touchesFrozen a then unsupported (.unsafePointer "a write to bytes that a string shares")
          let eq ← match Extern.Atomic.T.int ik, ← Extern.Atomic.read (.int ik) a, Value.int ky ny with
            | _, .int _ x, .int _ y => pure (x == y)
            | .ptr, .pointer x, .pointer y => samePointer x y
            | .int _, .pointer (some _), .int _ 0 | .int _, .int _ 0, .pointer (some _) => pure false
            | .int _, .pointer (some _), _ | .int _, _, .pointer (some _) => unsupported .addressObserved
            | _, _, _ => stuck "atomic.CompareAndSwap: old is no T"
          if eq then store a C .atomic
          pure (Value.bool eq)) w = _
        rw [Sem.run_bind]
        show Sem.run X.P (do
          if ← Extern.Atomic.touchesFrozen ⟨e.blk, e.off + o, none⟩ then unsupported (.unsafePointer "a write to bytes that a string shares")
          let eq ← match Extern.Atomic.T.int ik, ← Extern.Atomic.read (.int ik) ⟨e.blk, e.off + o, none⟩, Value.int ky ny with
            | _, .int _ x, .int _ y => pure (x == y)
            | .ptr, .pointer x, .pointer y => samePointer x y
            | .int _, .pointer (some _), .int _ 0 | .int _, .int _ 0, .pointer (some _) => pure false
            | .int _, .pointer (some _), _ | .int _, _, .pointer (some _) => unsupported .addressObserved
            | _, _, _ => stuck "atomic.CompareAndSwap: old is no T"
          if eq then store ⟨e.blk, e.off + o, none⟩ C .atomic
          pure (Value.bool eq)) w = _
        rw [Sem.run_bind, htouch, Result.andThen_ok]
        simp only [Bool.false_eq_true, if_false, Sem.run_bind, hread, Result.andThen_ok, Sem.run_pure]
        rw [← eqI_eq]
        cases heq : eqI n ny with
        | true =>
          simp only [if_true, Sem.run_bind, hst heq, Result.andThen_ok, Sem.run_pure]
        | false =>
          rw [hno heq]
          simp only [Bool.false_eq_true, if_false, Sem.run_pure]
      rw [bc_eq] at q7
      by_cases heq : eqI n ny = true
      · rw [if_pos heq] at q7
        obtain ⟨h', w', hk, hrun, R', hnx, _⟩ := storeR_ok R he q7 (xs := [C]) rfl (li_one hC)
        refine ⟨.b true, h', .bool true, w', μ, hk, ?_, Mu.ext_rfl (Nat.le_of_eq hnx.symm), rfl, R'⟩
        rw [← heq]
        exact hrun0 w' (fun _ => run_store_cell hc hrun _) (fun c => by rw [heq] at c; cases c)
      · rw [if_neg heq] at q7
        have heq : eqI n ny = false := by simpa using heq
        refine ⟨.b false, h, .bool false, w, μ, q7, ?_, Mu.ext_rfl (Nat.le_refl _), rfl, R⟩
        rw [← heq]
        exact hrun0 w (fun c => by rw [heq] at c; cases c) (fun _ => rfl)
    · cases q
  | nop =>
    obtain ⟨m, rfl⟩ := hs
    exact ⟨undV, h, .tuple #[], w, μ, q, rfl, Mu.ext_rfl (Nat.le_refl _), rfl, R⟩
  | nopA =>
    obtain ⟨m, rfl⟩ := hs
    unfold extV at q
    simp only at q
    split at q
    · rename_i a l
      obtain ⟨A, r, h1, h2, rfl⟩ := (concs_cons X.ms).1 ha
      obtain ⟨b, o, rfl, q1⟩ := asP_true q
      obtain ⟨e, he, rfl⟩ := rv_p (X := X) h1
      refine ⟨undV, h, .tuple #[], w, μ, q1, ?_, Mu.ext_rfl (Nat.le_refl _), rfl, R⟩
      unfold Extern.Race.marked Extern.Race.at_
      simp only [List.getElem?_toArray, List.getElem?_cons_zero, Sem.run_bind, Sem.run_pure, Result.andThen_ok]
      rfl
    · cases q
  | same =>
    subst hs
    unfold extV at q
    simp only at q
    split at q
    · rename_i v
      obtain ⟨A, rfl, hA⟩ := rvs_one ha v rfl
      exact ⟨v, h, A, w, μ, q, rfl, Mu.ext_rfl (Nat.le_refl _), hA, R⟩
    · cases q
  | idxByte =>
    subst hs
    unfold extV at q
    simp only at q
    split at q
    · rename_i s c
      obtain ⟨A, B, rfl, hA, hB⟩ := rvs_two ha s c rfl
      obtain ⟨len, n, rfl, q1⟩ := asS_true q
      obtain ⟨ik, m, rfl, q2⟩ := asI_true q1
      obtain ⟨c1, q3⟩ := ok_true.1 q2
      cases ikEq_eq c1
      obtain ⟨c, rfl, q4⟩ := natK_true (ik := .u8) q3
      obtain ⟨c2, q5⟩ := ok_true.1 q4
      cases rv_s hA
      cases rv_i hB
      have c2 : c < 256 := by simpa [Nat.blt_eq] using c2
      have hfi : ∀ (i : Int), i = findB n c len 0 → kk (.i .i64 i) h = true := fun i hi => by
        rw [← hi] at q5
        cases i with
        | ofNat a => rwa [show fI .i64 (Int.ofNat a) (fun v => kk v h) = forceN a (nI .i64 fun v => kk v h) from rfl, forceN_eq] at q5
        | negSucc a => rwa [show fI .i64 (Int.negSucc a) (fun v => kk v h) = forceN a (mI .i64 fun v => kk v h) from rfl, forceN_eq] at q5
      refine ⟨.i .i64 (findB n c len 0), h, .int .i64 (findB n c len 0), w, μ, hfi _ rfl, ?_, Mu.ext_rfl (Nat.le_refl _), rfl, R⟩
      show Sem.run X.P (do
        match (List.range (bytesOf len n).size).find? fun i => (bytesOf len n)[i]! == (c : Int).toNat.toUInt8 with
        | some i => pure (goInt i)
        | none => pure (goInt (-1))) w = _
      rw [bytesOf_size, List.range_eq_range', findB_eq (len := len) c2 len 0 (Nat.zero_add _)]
      split <;> rfl
    · cases q
  | noZero el =>
    obtain ⟨params, rfl, tt, ht, hu⟩ := hs
    unfold extV at q
    simp only at q
    split at q
    · rename_i n
      obtain ⟨A, rfl, hA⟩ := rvs_one ha n rfl
      obtain ⟨ik, m, rfl, q1⟩ := asI_true q
      obtain ⟨c1, q2⟩ := ok_true.1 q1
      cases ikEq_eq c1
      cases rv_i hA
      obtain ⟨n, rfl, q3⟩ := natK_true (ik := .i64) q2
      obtain ⟨c2, q4⟩ := ok_true.1 q3
      obtain ⟨f1, f2⟩ := fits_true c2
      obtain ⟨hn, h', hk, hh⟩ := new_true' q4
      obtain ⟨cap, hc, hrun⟩ := run_appendCap' (P := X.P) (w := w) n 0 el
      have hb : ∀ w1 : World, (choose (.extern "internal/bytealg.MakeNoZero.bytes" 0)).run X.P w1 = .ok (w1.tape w1.drawn (.extern "internal/bytealg.MakeNoZero.bytes" 0)) { w1 with drawn := w1.drawn + 1 } := fun _ => rfl
      obtain ⟨bv, hbv⟩ : ∃ bv, bv = w.tape (w.drawn + 1) (.extern "internal/bytealg.MakeNoZero.bytes" 0) := ⟨_, rfl⟩
      have hsize : (Extern.BytealgMakeNoZero.digits cap bv #[]).size = cap := by rw [digits_size]; simp
      obtain ⟨R', hle⟩ := R.add (w' := { w with heap := w.heap.push (.cells (Extern.BytealgMakeNoZero.digits cap bv #[]) el (0, 0)), drawn := w.drawn + 1 + 1 }) hn hh ⟨rfl, rfl, rfl, rfl⟩ (off := 0) (cap := cap)
        ⟨_, _, rfl, rowRel_new (by rw [hsize]; exact Nat.zero_le _) rfl (fun i _ => froz0 i) (fun i v hv => by have := Row.at_some hv; simp [Row.len] at this) (fun _ => ⟨by simp [Row.len], by rw [hsize]; simp⟩) (fun _ => rfl)⟩
      refine ⟨.sl (paOf h.next) 0 n (.op 0 0), h', .slice (some ⟨w.heap.size, 0, none⟩) n cap, _, _, hk, ?_, hle, ?_, R'⟩
      · show Sem.run X.P (do
          let some t := results[0]? | stuck "bytealg.MakeNoZero: no result type"
          let .slice elem ← underlying t | stuck "bytealg.MakeNoZero: slice type expected"
          if (n : Int) < 0 || (n : Int) > 2 ^ 48 then runtimePanic (.error "makeslice: len out of range")
          let cap ← choose (.appendCap (n : Int).toNat 0 elem)
          askRoom cap
          let bytes ← choose (.extern "internal/bytealg.MakeNoZero.bytes" 0)
          let a ← newRow elem (Extern.BytealgMakeNoZero.digits cap bytes #[])
          pure (Value.slice (some a) (n : Int).toNat cap)) w = _
        have hcond : (decide ((n : Int) < 0) || decide ((n : Int) > 2 ^ 48)) = false := by
          have h1 : (n : Int) < (big : Int) := by exact_mod_cast f1
          have h2 : (big : Int) ≤ 2 ^ 48 := by decide
          rw [decide_eq_false (by omega), decide_eq_false (by omega)]; rfl
        rw [ht]
        simp only [Sem.run_bind, run_und hu, Result.andThen_ok, hcond, Bool.false_eq_true, if_false, Int.toNat_natCast, hrun, run_askRoom, hb, run_newRow, Sem.run_pure]
        rw [← hbv]
      · have := rv_slo_mk (X := X) (b := paOf h.next) (o := 0) (l := n) (d := 0) (o0 := 0) (Mu.set_same μ (paOf h.next) ⟨w.heap.size, 0, cap⟩) (by simpa using hc)
        simpa using this
    · cases q
end
end PH.R
/-
  The reckoner: calls.
-/
namespace PH.R
open Go Go.RowKit
section
variable {X : Cx} {ty : Nat → Option D.Ty} {ts : List (Nat × TE)} {E : Env} {cs0 : List Frame} {w0 : World}

/-- Functions without a body are the library's. -/
def ExtOk (X : Cx) (ty : Nat → Option D.Ty) (ts : List (Nat × TE)) (E : Env) : Prop := ∀ f e, f < big → T.get none (paOf f) E = some (.ext e) → ∃ fn s, X.P.funcs[f]? = some fn ∧ (fn.name == "runtime.NumGoroutine") = false ∧ fn.body = none ∧ Extern.findNext fn = none ∧ Extern.find fn = some s ∧ extSem X.P e fn.resultTypes s

theorem argsT_get : ∀ (l : List V) (i : Nat) (t : TV) (u : Nat), i + l.length ≤ big → u < big → T.get undV (paOf u) (argsT l i t) = if i ≤ u ∧ u < i + l.length then (l[u - i]?).getD undV else T.get undV (paOf u) t
  | [], i, t, u, _, _ => by rw [if_neg (by simp)]; rfl
  | v :: l, i, t, u, hl, hu => by
    rw [List.length_cons] at hl
    show T.get undV (paOf u) (argsT l (i + 1) (T.set undV v (paOf i) t)) = _
    rw [argsT_get l (i + 1) _ u (by omega) hu, T.get_set, List.length_cons]
    by_cases c : u = i
    · subst c
      rw [if_neg (by omega), if_pos rfl, if_pos (by omega), Nat.sub_self]; rfl
    · rw [if_neg (fun e => c (paOf_inj hu (by omega) e))]
      by_cases d : i + 1 ≤ u ∧ u < i + 1 + l.length
      · rw [if_pos d, if_pos (by omega), show u - i = (u - (i + 1)) + 1 by omega, List.getElem?_cons_succ]
      · rw [if_neg d, if_neg (by omega)]
theorem args_rel {μ : Mu} {args : List V} {L : List Value} (ha : X.Rvs μ args L) {n : Nat} (hl : lenL args 0 ≤ n) (hn : n < big) : TmpRel X.ms μ n (argsT args 0 .lf) (L.toArray ++ Array.replicate (n - L.toArray.size) undef) (fun _ => False) := by
  rw [lenL_zero] at hl
  have hlen := rvs_length ha
  refine ⟨by simp; omega, hn, fun u hu _ => ?_⟩
  rw [argsT_get args 0 .lf u (by omega) hu, Nat.zero_add, Nat.sub_zero]
  by_cases c : u < args.length
  · rw [if_pos ⟨Nat.zero_le _, c⟩]
    obtain ⟨x, h1, h2⟩ := rvs_nth ha (i := u) (v := args[u]) (List.getElem?_eq_getElem c)
    rw [List.getElem?_eq_getElem c, Option.getD_some, h2, Array.getD_eq_getD_getElem?, Array.getElem?_append_left (by simpa using (by omega : u < L.length))]
    congr 1
    simp [h1]
  · rw [if_neg (by omega), T.get_lf]
    show some undef = _
    congr 1
    rw [Array.getD_eq_getD_getElem?, Array.getElem?_append_right (by simpa using (by omega : L.length ≤ u)), Array.getElem?_replicate]
    split <;> rfl

/-- A function is entered. -/
theorem enter_ok {μ : Mu} {lo : Nat} {h : H} {ls : T (Option Lp)} {w : World} {f n : Nat} {c : C} {args : List V} {L : List Value} {fr : Fr} {frs : List Fr} {cf : Frame} {cs : List Frame} {r : Cf → Bool} {kd : Kd} {kind : CallKind}
    (R : HRel X μ h ls w0 w) (F : FrRel X ty ts μ lo h.next fr cf) (hlo : lo ≤ h.next) (C : CsRel X ty ts cs0 μ lo frs cs) (ha : X.Rvs μ args L) {fn : Func} {c' : Code} (hf : X.P.funcs[f]? = some fn) (hb : fn.body = some c') (hn : fn.ntmps = n) (hc : c = cc X.P X.ms ty ts n c')
    (hl : lenL args 0 ≤ n) (hbig : n < big) (hk : kind = match kd with | .normal => .normal | .deferred => .deferred) (q : r (.run ⟨⟨f, n, [], kd, none⟩, fr :: frs, ls⟩ (argsT args 0 .lf) [.code c] h) = true) :
    Sm X ty ts cs0 w0 r (lone (Frame.enter X.P f L.toArray kind) (cf :: cs) w) := by
  let b : Frame := { (default : Frame) with fn := f, kind := kind, roundOf := none }
  let a : Act := { tmps := L.toArray ++ Array.replicate (n - L.toArray.size) undef, defers := [] }
  have henter : Frame.enter X.P f L.toArray kind = b.atR a [.code c'] := by
    simp [Frame.enter, Frame.atR, hf, hb, hn, b, a]
  rw [henter]
  refine Sm.run (k := ⟨⟨f, n, [], kd, none⟩, fr :: frs, ls⟩) q R (Nat.le_refl _) (pend := fun _ => False) ⟨rfl, args_rel ha hl hbig, trivial, hk, rfl⟩ ?_ ⟨lo, hlo, F, C⟩
  rw [hc]
  exact .plain (.code c' .nil)

/-- What stands for a function of the machine's. -/
theorem fn_code (Pg : Prg X ty ts E) {f n : Nat} {res : List RV} {c : C} (hf : f < big) (h : T.get none (paOf f) E = some (.code n res c)) : ∃ fn c' res', X.P.funcs[f]? = some fn ∧ (fn.name == "runtime.NumGoroutine") = false ∧ fn.body = some c' ∧ fn.ntmps = n ∧ c = cc X.P X.ms ty ts n c' ∧ D.resOf ty fn.results.toList = some res' ∧ res = sRVs res' := by
  obtain ⟨fn, d, h1, h2, h3, h4⟩ := Pg.fns f _ hf h
  unfold D.fnOf at h3
  split at h3
  · rename_i c' hb
    split at h3
    · rename_i r' hr
      cases h3
      cases h4
      exact ⟨fn, c', r', h1, h2, hb, rfl, rfl, hr, rfl⟩
    · cases h3
  · split at h3
    · cases h3; cases h4
    · cases h3
theorem run_callFunc {P : Program} {f : Nat} {fn : Func} {c' : Code} (hf : P.funcs[f]? = some fn) (hn : (fn.name == "runtime.NumGoroutine") = false) (hb : fn.body = some c') (args : Array Value) (w : World) : (callFunc f args).run P w = .ok (.enter f args) w := by
  unfold callFunc
  rw [Sem.run_bind, run_program, Result.andThen_ok]
  simp only [hf, hn, Bool.false_eq_true, if_false, hb, Option.isNone_some]
  rfl
theorem run_callExt {P : Program} {f : Nat} {fn : Func} {s : Array Value → Sem Value} (hf : P.funcs[f]? = some fn) (hn : (fn.name == "runtime.NumGoroutine") = false) (hb : fn.body = none) (h1 : Extern.findNext fn = none) (h2 : Extern.find fn = some s) {args : Array Value} {w w' : World} {z : Value} (hs : (s args).run P w = .ok z w') : (callFunc f args).run P w = .ok (.value z) w' := by
  unfold callFunc
  rw [Sem.run_bind, run_program, Result.andThen_ok]
  simp only [hf, hn, Bool.false_eq_true, if_false, hb, Option.isNone_none, if_true, Sem.run_bind, h1, h2]
  rw [show (mark (.extern f)).run P w = .ok () w from rfl, Result.andThen_ok]
  simp only [Sem.run_bind, Sem.run_pure, hs, Result.andThen_ok]
end
end PH.R
/-
  The reckoner: what loud operations come to.
-/
namespace PH.R
open Go Go.RowKit
section
variable {X : Cx} {ty : Nat → Option D.Ty} {ts : List (Nat × TE)} {E : Env} {cs0 : List Frame} {w0 : World}
variable {k : K} {t : TV} {todo : List I} {h : H} {r : Cf → Bool} {b : Frame} {a : Act} {m : List Item} {ops : Array Oper} {i : Nat} {idxs : List Nat} {pend : Nat → Prop} {cs : List Frame} {μ : Mu} {lo : Nat} {w : World} {oo : Oper}

/-- A loud operation is about to be done. -/
structure At (X : Cx) (ty : Nat → Option D.Ty) (ts : List (Nat × TE)) (cs0 : List Frame) (w0 : World) (k : K) (t : TV) (todo : List I) (h : H) (b : Frame) (a : Act) (m : List Item) (ops : Array Oper) (i : Nat) (idxs : List Nat) (pend : Nat → Prop) (cs : List Frame) (μ : Mu) (lo : Nat) (w : World) (oo : Oper) : Prop where
  R : HRel X μ h k.ls w0 w
  hlo : lo ≤ h.next
  A : ARel X μ k.x t pend b a
  W : Wait X ty ts μ lo h.next k.x.n t todo (.inRegion ops (i :: idxs) :: m) pend
  C : CsRel X ty ts cs0 μ lo k.cs cs
  ho : ops[i]? = some oo
  hw : Region.wanted oo (yielded ops a.tmps) = true

theorem At.val (S : At X ty ts cs0 w0 k t todo h b a m ops i idxs pend cs μ lo w oo) {v : V} {z : Value} {h' : H} {w' : World} {μ' : Mu} (hr : (oo.semAt b.roundOf a.eval).run X.P w = .ok (.value z) w') (he : Mu.ext h.next h'.next μ μ') (hv : X.Rv μ' v z) (R' : HRel X μ' h' k.ls w0 w') (q : go k t todo v h' r = true) :
    Sm X ty ts cs0 w0 r (lone (b.atR a (.inRegion ops (i :: idxs) :: m)) cs w) :=
  Sm.head (stp_value S.ho S.hw hr) (go_ok R' (Nat.le_trans S.hlo he.2.2) (S.A.mono he.1) (S.W.mono he.1 he.2.1 he.2.2) (Nat.le_refl _) (S.C.mono he.1 (fun q hq => he.2.1 q (Nat.lt_of_lt_of_le hq S.hlo)) (Nat.le_refl _)) hv q)
theorem At.skip (S : At X ty ts cs0 w0 k t todo h b a m ops i idxs pend cs μ lo w oo) {h' : H} {w' : World} (hr : (oo.semAt b.roundOf a.eval).run X.P w = .ok .skip w') (hn : h.next ≤ h'.next) (R' : HRel X μ h' k.ls w0 w') (q : go k t todo undV h' r = true) :
    Sm X ty ts cs0 w0 r (lone (b.atR a (.inRegion ops (i :: idxs) :: m)) cs w) :=
  Sm.head (stp_skip S.ho S.hw hr) (go_ok R' (Nat.le_trans S.hlo hn) S.A (S.W.mono (Mu.le_refl _) (fun _ _ => rfl) hn) (Nat.le_refl _) S.C (rv_und X μ) q)
theorem At.fr (S : At X ty ts cs0 w0 k t todo h b a m ops i idxs pend cs μ lo w oo) : FrRel X ty ts μ lo h.next ⟨k.x, t, todo, true⟩ (b.atR a (.inRegion ops (i :: idxs) :: m)) :=
  ⟨b, a, _, pend, S.A, fun _ => ⟨rfl, S.W⟩, fun e => by cases e⟩

theorem At.call (Pg : Prg X ty ts E) (Ex : ExtOk X ty ts E) (S : At X ty ts cs0 w0 k t todo h b a m ops i idxs pend cs μ lo w oo) {f : Nat} {args : List V} {L : List Value} (ha : X.Rvs μ args L) (hr : (oo.semAt b.roundOf a.eval).run X.P w = (callFunc f L.toArray).run X.P w) (q : callF E f args k t todo h r = true) :
    Sm X ty ts cs0 w0 r (lone (b.atR a (.inRegion ops (i :: idxs) :: m)) cs w) := by
  unfold callF at q
  obtain ⟨hf, q⟩ := ok_true.1 q
  have hf : f < big := by simpa [Nat.blt_eq] using hf
  obtain ⟨fn, hE, q⟩ := ob_true.1 q
  cases fn with
  | code n res c =>
    obtain ⟨fn, c', res', h1, h2, h3, h4, h5, _⟩ := fn_code Pg hf hE
    obtain ⟨x, frs, ls⟩ := k
    have q : ok (Nat.ble (lenL args 0) n) (ok (Nat.blt n big) (r (.run ⟨⟨f, n, [], .normal, none⟩, ⟨x, t, todo, true⟩ :: frs, ls⟩ (argsT args 0 .lf) [.code c] h))) = true := q
    obtain ⟨c1, q⟩ := ok_true.1 q
    obtain ⟨c2, q⟩ := ok_true.1 q
    have c1 : lenL args 0 ≤ n := by simpa using c1
    have c2 : n < big := by simpa [Nat.blt_eq] using c2
    rw [run_callFunc h1 h2 h3] at hr
    exact Sm.head (stp_enter S.ho S.hw hr) (enter_ok S.R S.fr S.hlo S.C ha h1 h3 h4 h5 c1 c2 rfl q)
  | ext e =>
    obtain ⟨fn, s, h1, h2, h3, h4, h5, h6⟩ := Ex f e hf hE
    obtain ⟨v, h', z, w', μ', b1, b2, b3, b4, b5⟩ := ext_ok S.R ha (show extV h args e (fun v h => go k t todo v h r) = true from q) h6
    rw [run_callExt h1 h2 h3 h4 h5 b2] at hr
    exact S.val hr b3 b4 b5 b1

/-! Methods -/
theorem recv_ok (M : MsOk X) (R : HRel X μ h k.ls w0 w) {name : String} {tt f : Nat} {rc : Rc} (hm : findM tt (X.ms name) = some (f, rc)) {v : V} {y : Value} (hv : X.Rv μ v y) {kk : V → Bool} (q : recvV h v rc kk = true) (fuel : Nat) :
    ∃ v' y', kk v' = true ∧ X.Rv μ v' y' ∧ (method (fuel + 1) tt y name).run X.P w = .ok (f, y') w := by
  obtain ⟨inf, mm, p, d, h1, h2, h3, h4, h5, h6⟩ := M name tt f rc hm
  have red : (method (fuel + 1) tt y name).run X.P w = ((receiverAt tt (.val y) p (some ((name.splitOn ".").getLastD name))).run X.P w).andThen fun z w => .ok (f, z) w := by
    unfold method
    simp only [Sem.run_bind, run_typeInfo h1, Result.andThen_ok, h2, h3, follow, h4, Sem.run_pure]
    rfl
  rw [red]
  cases rc with
  | id =>
    refine ⟨v, y, q, hv, ?_⟩
    have : (receiverAt tt (.val y) p (some ((name.splitOn ".").getLastD name))).run X.P w = .ok y w := by
      unfold receiverAt
      rw [Sem.run_bind, run_und h5, Result.andThen_ok]
      rcases h6 with ⟨rfl, e, rfl⟩ | ⟨rfl, hne⟩
      · rfl
      · cases d <;> first | rfl | exact absurd rfl (hne _)
    rw [this]; rfl
  | deref n =>
    obtain ⟨rfl, e, j, inf', d', rfl, F, hag⟩ := h6
    have hload : ∀ (en : Ent) (o : Nat) (v' : V) (z : Value), (loadVar e ⟨en.blk, en.off + o, none⟩).run X.P w = .ok z w → y = .pointer (some ⟨en.blk, en.off + o, none⟩) → (receiverAt tt (.val y) false (some ((name.splitOn ".").getLastD name))).run X.P w = .ok z w := fun en o v' z hz hy => by
      unfold receiverAt
      rw [Sem.run_bind, run_und h5, Result.andThen_ok, hy]
      show Sem.run X.P (do
        let ptr ← Builtin.ssaWrapNilChk_ #[tt] tt #[.pointer (some ⟨en.blk, en.off + o, none⟩), strVal "", strVal ((name.splitOn ".").getLastD name)]
        loadVar e (← asAddr ptr)) w = _
      rw [Sem.run_bind]
      show Sem.run X.P (loadVar e ⟨en.blk, en.off + o, none⟩) w = _
      exact hz
    cases n with
    | none =>
      obtain ⟨bb, o, rfl, q⟩ := asP_true q
      obtain ⟨en, he, rfl⟩ := rv_p hv
      obtain ⟨v', z, q, hz, hc⟩ := load1_ok R he q
      refine ⟨v', z, q, hz, ?_⟩
      rw [hload en o v' z (run_loadVar1 F hag hc) rfl]; rfl
    | some n =>
      obtain ⟨bb, o, rfl, q⟩ := asP_true q
      obtain ⟨en, he, rfl⟩ := rv_p hv
      obtain ⟨l, xs, q, hl, hx, hc⟩ := loadN_ok R he q
      refine ⟨.ag l, .agg xs.toArray, q, rv_ag_mk hl, ?_⟩
      rw [hload en o (.ag l) _ (run_loadVarN F hag hc) rfl]; rfl
theorem At.inv (Pg : Prg X ty ts E) (Ex : ExtOk X ty ts E) (S : At X ty ts cs0 w0 k t todo h b a m ops i idxs pend cs μ lo w oo) {name : String} {v : V} {x : Value} {args : List V} {L : List Value} (hv : X.Rv μ v x) (ha : X.Rvs μ args L) (hr : (oo.semAt b.roundOf a.eval).run X.P w = (callMethod x name L.toArray).run X.P w) (q : outInv E k t todo h (X.ms name) v args r = true) :
    Sm X ty ts cs0 w0 r (lone (b.atR a (.inRegion ops (i :: idxs) :: m)) cs w) := by
  unfold outInv at q
  rcases asIc_true q with ⟨tt, u, rfl, q⟩ | ⟨_, q⟩
  · obtain ⟨y, hy, rfl⟩ := rv_ic hv
    obtain ⟨⟨f, rc⟩, hm, q⟩ := ob_true.1 q
    obtain ⟨v', y', q, hv', hrun⟩ := recv_ok Pg.mm S.R hm hy q (X.P.types.size + 99)
    refine S.call Pg Ex (args := v' :: args) (L := y' :: L) ((concs_cons X.ms).2 ⟨y', L, hv', ha, rfl⟩) ?_ q
    rw [hr]
    unfold callMethod
    rw [Sem.run_bind, run_program, Result.andThen_ok, Sem.run_bind, show X.P.types.size + Made.depth = (X.P.types.size + 99) + 1 from rfl, hrun, Result.andThen_ok]
    show Sem.run X.P (callFunc f (#[y'] ++ L.toArray)) w = _
    rw [show (#[y'] ++ L.toArray : Array Value) = (y' :: L).toArray from by simp]
  · cases q

/-! Rounds -/
theorem setPs_ok {n : Nat} (hn : n < big) {kk : TV → Bool} : ∀ (ps : List Nat) (vs : List V) (L : List Value) (t : TV) (tmps : Array Value), (∀ p, p ∈ ps → p < n) → TmpRel X.ms μ n t tmps (fun _ => False) → X.Rvs μ vs L → setPs (ps.map paOf) vs t kk = true →
    ps.length = L.length ∧ ∃ t', kk t' = true ∧ TmpRel X.ms μ n t' ((ps.zip L).foldl (fun tmps (p : Nat × Value) => tmps.setIfInBounds p.1 p.2) tmps) (fun _ => False)
  | [], [], L, t, tmps, _, A, hv, q => by cases hv; exact ⟨rfl, t, q, A⟩
  | [], v :: vs, L, t, tmps, _, _, _, q => by cases q
  | p :: ps, [], L, t, tmps, _, _, _, q => by cases q
  | p :: ps, v :: vs, L, t, tmps, hp, A, hv, q => by
    obtain ⟨z, L', h1, h2, rfl⟩ := (concs_cons X.ms).1 hv
    have A' := A.both (dst := some p) (v := v) (z := z) (pend' := fun _ => False) h1 (fun d e => by cases e; exact hp _ (by simp)) (fun u c => c.elim)
    obtain ⟨e, t', q', A2⟩ := setPs_ok hn ps vs L' (putD (some (paOf p)) v t) (tmps.setIfInBounds p z) (fun p' hp' => hp p' (by simp [hp'])) A' h2 q
    exact ⟨by rw [List.length_cons, List.length_cons, e], t', q', A2⟩
theorem LpRel.at (Pg : Prg X ty ts E) {ls : T (Option Lp)} (R : HRel X μ h ls w0 w) {l : Pa} {L : Lp} {e : Ent} (hl : T.get none l ls = some L) (he : μ l = some e) : ∃ lp : Loop, w.heap[e.blk]? = some (.loop lp) ∧ lsRel L.st lp.state ∧ lp.fn = L.fn ∧ TmpRel X.ms μ L.n L.tmps lp.tmps (fun _ => False) ∧ L.params = lp.params.toList.map paOf ∧ (∀ p ∈ lp.params, p < L.n) ∧
    L.assign = cc X.P X.ms ty ts L.n lp.assign ∧ L.body = cc X.P X.ms ty ts L.n lp.body ∧ jRel L.pending lp.pending ∧ ∃ d, μ L.defers = some d ∧ d.blk = lp.defers := by
  obtain ⟨o, h1, h2⟩ := R.lp l L e hl he
  obtain ⟨lp, rfl, h3⟩ := (Pg.lr μ L o).1 h2
  exact ⟨lp, h1, h3⟩
theorem run_getLoop {P : Program} {b : Nat} {lp : Loop} (h : w.heap[b]? = some (.loop lp)) : (Instr.getLoop b).run P w = .ok lp w := by
  unfold Instr.getLoop
  rw [Sem.run_bind, run_getObj h (by simp), Result.andThen_ok]
  rfl
theorem round_eq (e : Nat) (f : Nat) (tmps : Array Value) (as bd : Code) : Frame.round e f tmps as bd .normal = ({ (default : Frame) with fn := f, kind := .normal, roundOf := some e } : Frame).atR ⟨tmps, []⟩ [.code as, .beginRound, .code bd] := rfl
theorem At.yield (Pg : Prg X ty ts E) (S : At X ty ts cs0 w0 k t todo h b a m ops i idxs pend cs μ lo w oo) {l : Pa} {args : List V} {L : List Value} {e : Ent} (he : μ l = some e) (ha : X.Rvs μ args L) (hr : (oo.semAt b.roundOf a.eval).run X.P w = (Instr.yield e.blk L.toArray).run X.P w) (q : outYield k t todo h l args r = true) :
    Sm X ty ts cs0 w0 r (lone (b.atR a (.inRegion ops (i :: idxs) :: m)) cs w) := by
  obtain ⟨x, frs, ls⟩ := k
  obtain ⟨Lp, hl, q⟩ := ob_true.1 (show ob (T.get none l ls) (fun L => setPs L.params args L.tmps fun t' => r (.run ⟨⟨L.fn, L.n, [], .normal, some l⟩, ⟨x, t, todo, true⟩ :: frs, ls⟩ t' [.code L.assign, .br, .code L.body] h)) = true from q)
  obtain ⟨lp, h1, h2, h3, h4, h5, h6, h7, h8, h9, d, hd, hdb⟩ := LpRel.at Pg S.R hl he
  rw [h5] at q
  obtain ⟨hlen, t', q, A'⟩ := setPs_ok h4.2.1 lp.params.toList args L Lp.tmps lp.tmps (fun p hp => h6 p (by simpa using hp)) h4 ha q
  have hrun : (Instr.yield e.blk L.toArray).run X.P w = .ok (.round e.blk lp.fn ((lp.params.toList.zip L).foldl (fun tmps (p : Nat × Value) => tmps.setIfInBounds p.1 p.2) lp.tmps) lp.assign lp.body) w := by
    unfold Instr.yield
    rw [Sem.run_bind, run_getLoop h1, Result.andThen_ok]
    have : L.toArray.size = lp.params.size := by simpa using hlen.symm
    rw [if_neg (by rw [this]; simp)]
    show Result.ok (Next.round e.blk lp.fn (((lp.params.zip L.toArray).foldl (fun tmps (p : Nat × Value) => tmps.setIfInBounds p.1 p.2) lp.tmps)) lp.assign lp.body) w = _
    congr 2
    rw [← Array.foldl_toList, Array.toList_zip]
  rw [hrun] at hr
  refine Sm.head (stp_round S.ho S.hw hr) ?_
  rw [round_eq]
  have A2 : ARel X μ ⟨Lp.fn, Lp.n, [], .normal, some l⟩ t' (fun _ => False) { (default : Frame) with fn := lp.fn, kind := .normal, roundOf := some e.blk } ⟨(lp.params.toList.zip L).foldl (fun tmps (p : Nat × Value) => tmps.setIfInBounds p.1 p.2) lp.tmps, []⟩ := ⟨h3, A', trivial, rfl, ⟨e, he, rfl⟩⟩
  refine Sm.run (k := ⟨⟨Lp.fn, Lp.n, [], .normal, some l⟩, ⟨x, t, todo, true⟩ :: frs, ls⟩) q S.R (Nat.le_refl _) A2 ?_ ⟨lo, S.hlo, S.fr, S.C⟩
  rw [h7, h8]
  exact .plain (.code _ (.br (.code _ .nil)))
/-- What 'recover' finds: nothing. -/
theorem At.recover (S : At X ty ts cs0 w0 k t todo h b a m ops i idxs pend cs μ lo w oo) (hr : (oo.semAt b.roundOf a.eval).run X.P w = .ok .recover w) (q : outRec k t todo h r = true) :
    Sm X ty ts cs0 w0 r (lone (b.atR a (.inRegion ops (i :: idxs) :: m)) cs w) := by
  have hb := S.A.rnd
  have hkd := S.A.kd
  have fin : b.roundOf = none → tryRecover (b.atR a (.inRegion ops (i :: idxs) :: m)) cs = none → go k t todo .ni h r = true → Sm X ty ts cs0 w0 r (lone (b.atR a (.inRegion ops (i :: idxs) :: m)) cs w) := fun h1 h2 q =>
    Sm.head (stp_recover S.ho S.hw hr h1 h2) (go_ok (v := .ni) (z := .nilIface) S.R S.hlo S.A S.W (Nat.le_refl _) S.C rfl q)
  unfold outRec at q
  revert hb hkd
  cases hrnd : k.x.rnd with
  | some l =>
    rw [hrnd] at q
    cases q
  | none =>
    rw [hrnd] at q
    intro hb hkd
    revert hkd
    cases hk : k.x.kd with
    | normal =>
      rw [hk] at q
      intro hkd
      refine fin hb ?_ q
      have : (b.atR a (.inRegion ops (i :: idxs) :: m)).kind = .normal := hkd
      unfold tryRecover
      rw [this]
    | deferred =>
      rw [hk] at q
      intro hkd
      cases hcs : k.cs with
      | nil => rw [hcs] at q; cases q
      | cons c frs =>
        rw [hcs] at q
        simp only at q
        rw [bc_eq] at q
        by_cases hc : c.run = true
        · rw [if_pos hc] at q; cases q
        · rw [if_neg hc] at q
          have hc : c.run = false := by simpa using hc
          have C := S.C
          rw [hcs] at C
          cases cs with
          | nil => exact C.elim
          | cons cf cs =>
            obtain ⟨lo', h1, ⟨b', a', todo', pend', _, _, h3⟩, _⟩ := C
            obtain ⟨h3, _⟩ := h3 hc
            refine fin hb ?_ q
            rw [tryRecover_deferred (show (b.atR a (.inRegion ops (i :: idxs) :: m)).kind = .deferred from hkd)]
            subst h3
            rfl
/-- A call is put off. -/
theorem At.dfr (Pg : Prg X ty ts E) (S : At X ty ts cs0 w0 k t todo h b a m ops i idxs pend cs μ lo w oo) {c : Call} (ho : oo.op = .defer c) {d : Df} {D : Deferred} (hD : DfRel X μ d D) (hres : (resolve a.eval c oo.type).run X.P w = .ok D w) (q : outDfr k t todo h d r = true) :
    Sm X ty ts cs0 w0 r (lone (b.atR a (.inRegion ops (i :: idxs) :: m)) cs w) := by
  obtain ⟨⟨fn, n, dfs, kd, rnd⟩, frs, ls⟩ := k
  have hb := S.A.rnd
  cases rnd with
  | none =>
    have hb : b.roundOf = none := hb
    have hr : (oo.semAt b.roundOf a.eval).run X.P w = .ok (.defer D) w := by
      rw [hb, Oper.semAt_none]
      unfold execOp
      rw [ho]
      simp only [Sem.run_bind, hres, Result.andThen_ok, Sem.run_pure]
    have q : go ⟨⟨fn, n, d :: dfs, kd, none⟩, frs, ls⟩ t todo undV h r = true := q
    have A' : ARel X μ ⟨fn, n, d :: dfs, kd, none⟩ t pend b { a with defers := D :: a.defers } := ⟨S.A.fn, S.A.tmp, ⟨hD, S.A.dfs⟩, S.A.kd, S.A.rnd⟩
    exact Sm.head (stp_defer S.ho S.hw hr) (go_ok (k := ⟨⟨fn, n, d :: dfs, kd, none⟩, frs, ls⟩) S.R S.hlo A' S.W (Nat.le_refl _) S.C (rv_und X μ) q)
  | some l =>
    obtain ⟨e, he, hb⟩ := hb
    obtain ⟨Lp, hl, q⟩ := ob_true.1 (show ob (T.get none l ls) (fun L => match h.get L.defers with
      | some (.dfd (some ds)) => go ⟨⟨fn, n, dfs, kd, some l⟩, frs, ls⟩ t todo undV (h.put L.defers (.dfd (some (d :: ds)))) r
      | _ => false) = true from q)
    obtain ⟨lp, h1, h2, h3, h4, h5, h6, h7, h8, h9, dd, hd, hdb⟩ := LpRel.at Pg S.R hl he
    split at q
    · rename_i ds hds
      obtain ⟨o, ho1, ho2⟩ := S.R.obj Lp.defers _ dd hds hd
      obtain ⟨Ds, rfl, hDs⟩ := ho2
      have hnew : w0.heap.size ≤ dd.blk := by
        rcases S.R.fresh Lp.defers dd (.inl (by rw [hds]; simp)) hd with hf | ⟨_, _, _, hf, _⟩
        · exact hf
        · rw [hds] at hf; cases hf
      have R' := S.R.turn (x' := .dfd (some (d :: ds))) (o' := .deferred (some (D :: Ds))) (w' := { w with heap := w.heap.setIfInBounds dd.blk (.deferred (some (D :: Ds))) }) hds hd (.inl hnew) ⟨D :: Ds, rfl, hD, hDs⟩ rfl fun hlt => absurd hlt (by omega)
      have hr : (oo.semAt b.roundOf a.eval).run X.P w = .ok .skip { w with heap := w.heap.setIfInBounds dd.blk (.deferred (some (D :: Ds))) } := by
        unfold Oper.semAt
        rw [hb, ho]
        simp only [Sem.run_bind, hres, Result.andThen_ok]
        unfold Instr.deferInRound
        simp only [Sem.run_bind, run_getLoop h1, Result.andThen_ok, ← hdb, run_getObj ho1 (by simp), run_setObj ho1 (by simp), Sem.run_pure]
      exact S.skip (h' := h.put Lp.defers (.dfd (some (d :: ds)))) hr (Nat.le_refl _) R' q
    · cases q

/-- A loud operation is done. -/
theorem loud_ok (Pg : Prg X ty ts E) (Ex : ExtOk X ty ts E) (S : At X ty ts cs0 w0 k t todo h b a m ops i idxs pend cs μ lo w oo) (hX : Xs X μ t a.eval oo.op.operands.toList) {f : Lo} (hs : (sO (dO X.P X.ms ty ts k.x.n ops oo)).s = .l f) (q : f t h (out E k t todo r h) = true) :
    Sm X ty ts cs0 w0 r (lone (b.atR a (.inRegion ops (i :: idxs) :: m)) cs w) := by
  have hs' : sOp (dO X.P X.ms ty ts k.x.n ops oo).op = .l f := hs
  obtain ⟨_, ⟨hbad, _⟩ | ⟨_, hop, _⟩⟩ := dO_inv (X := X) (ty := ty) (ts := ts) (n := k.x.n) (ops := ops) (o := oo)
  · rw [hbad] at hs'
    cases hs'
    cases q
  have St : Sit X ty ts μ h k.ls w0 w a.eval := ⟨Pg.tt, Pg.mm, Pg.tso, S.R, evOk a⟩
  by_cases hd : ∃ c, oo.op = .defer c
  · obtain ⟨c, hc⟩ := hd
    obtain ⟨f', e, hk⟩ := opOf_dfr (t := t) St hc hX hop
    rw [hs'] at e
    cases e
    obtain ⟨d, D, q1, q2, q3⟩ := hk _ q
    exact S.dfr Pg hc q2 q3 q1
  · have hnd : ∀ c, oo.op ≠ .defer c := fun c e => hd ⟨c, e⟩
    have hsem : oo.semAt b.roundOf a.eval = execOp a.eval oo := Oper.semAt_eq _ _ _ hnd
    have hSR := opOf_ok (t := t) St hX hop hnd
    rw [hs'] at hSR
    rcases hSR _ q with ⟨v, h', z, w', μ', q1, q2, q3, q4, q5⟩ | ⟨h', w', q1, q2, q3, q4⟩ | ⟨g, vs, L, q1, q2, q3⟩ | ⟨l, vs, L, e, q1, q2, q3, q4⟩ | ⟨name, v, vs, x, L, q1, q2, q3, q4⟩ | ⟨q1, q2⟩
    · exact S.val (by rw [hsem]; exact q2) q3 q4 q5 q1
    · exact S.skip (by rw [hsem]; exact q2) q3 q4 q1
    · exact S.call Pg Ex q2 (by rw [hsem]; exact q3) q1
    · exact S.yield Pg q2 q3 (by rw [hsem]; exact q4) q1
    · exact S.inv Pg Ex q2 q3 (by rw [hsem]; exact q4) q1
    · exact S.recover (by rw [hsem]; exact q2) q1
end
end PH.R
/-
  The reckoner: what its heap stands for: loops.
-/
namespace PH.R
open Go Go.RowKit
variable {X : Cx} {μ : Mu} {h : H} {ls : T (Option Lp)} {w0 w : World}

theorem get_lput (ls : T (Option Lp)) (l q : Pa) (x : Lp) : T.get none q (lput ls l x) = if q = l then some x else T.get none q ls := T.get_set q l ls
/-- A loop turns. -/
theorem HRel.lset (R : HRel X μ h ls w0 w) {l : Pa} {L L' : Lp} {e : Ent} {o' : Obj} (hl : T.get none l ls = some L) (he : μ l = some e) (ho : X.LR μ L' o') : HRel X μ h (lput ls l L') w0 { w with heap := w.heap.setIfInBounds e.blk o' } := by
  have hll : Live h ls l := .inr (by rw [hl]; simp)
  have hlt : e.blk < w.heap.size := by
    obtain ⟨o, h1, _⟩ := R.lp l L e hl he
    exact (Array.getElem?_eq_some_iff.1 h1).1
  have hf : w0.heap.size ≤ e.blk := by
    rcases R.fresh l e hll he with a | ⟨r, fz, el, a, _⟩
    · exact a
    · rw [R.apart l (by rw [a]; simp)] at hl; cases hl
  have hlive : ∀ q, Live h (lput ls l L') q → Live h ls q := fun q hq => by
    rcases hq with hq | hq
    · exact .inl hq
    · rw [get_lput] at hq
      by_cases c : q = l
      · rw [c]; exact hll
      · rw [if_neg c] at hq; exact .inr hq
  have hget : ∀ i, ({ w with heap := w.heap.setIfInBounds e.blk o' } : World).heap[i]? = if i = e.blk then some o' else w.heap[i]? := fun i => by
    show (w.heap.setIfInBounds e.blk o')[i]? = _
    rw [Array.getElem?_setIfInBounds]
    by_cases c : e.blk = i
    · subst c; rw [if_pos rfl, if_pos rfl, if_pos hlt]
    · rw [if_neg c, if_neg (Ne.symm c)]
  constructor
  · intro q y d hq hd
    obtain ⟨o, h1, h2⟩ := R.obj q y d hq hd
    have hne : q ≠ l := fun c => by rw [c] at hq; rw [R.apart l (by rw [hq]; simp)] at hl; cases hl
    exact ⟨o, by rw [hget, if_neg (fun k => hne (R.inj q l d e (.inl (by rw [hq]; simp)) hll hd he k))]; exact h1, h2⟩
  · intro q M d hq hd
    rw [get_lput] at hq
    by_cases c : q = l
    · rw [if_pos c] at hq; cases hq
      rw [c, he] at hd; cases hd
      exact ⟨o', by rw [hget, if_pos rfl], ho⟩
    · rw [if_neg c] at hq
      obtain ⟨o, h1, h2⟩ := R.lp q M d hq hd
      exact ⟨o, by rw [hget, if_neg (fun k => c (R.inj q l d e (.inr (by rw [hq]; simp)) hll hd he k))]; exact h1, h2⟩
  · intro q hq
    rw [get_lput, if_neg (fun c => by rw [c] at hq; rw [R.apart l hq] at hl; cases hl)]
    exact R.apart q hq
  · exact fun q q' d d' a a' => R.inj q q' d d' (hlive q a) (hlive q' a')
  · exact fun q d a hd => R.fresh q d (hlive q a) hd
  · exact R.dom
  · exact fun q a => R.live q (hlive q a)
  · exact R.next
  · exact R.glob
  · refine ⟨R.below.os, R.below.tape, R.below.output, ?_, fun i hi => ?_⟩
    · show w0.heap.size ≤ (w.heap.setIfInBounds e.blk o').size
      rw [Array.size_setIfInBounds]; exact R.below.size
    · rw [hget, if_neg (by omega)]; exact R.below.block i hi
/-- A new loop. -/
theorem HRel.ladd (R : HRel X μ h ls w0 w) {L : Lp} {o : Obj} (hn : h.next < big) (ho : X.LR (μ.set (paOf h.next) ⟨w.heap.size, 0, 0⟩) L o) : HRel X (μ.set (paOf h.next) ⟨w.heap.size, 0, 0⟩) ⟨h.h, h.next + 1⟩ (lput ls (paOf h.next) L) w0 { w with heap := w.heap.push o } ∧ Mu.ext h.next (h.next + 1) μ (μ.set (paOf h.next) ⟨w.heap.size, 0, 0⟩) := by
  have hnum : (paOf h.next).num = h.next := num_paOf hn
  obtain ⟨g1, g2, g3⟩ := H.get_none_of R (b := paOf h.next) (by omega)
  have hle := Mu.le_set (e := (⟨w.heap.size, 0, 0⟩ : Ent)) g3
  have hset : ∀ q, q ≠ paOf h.next → (μ.set (paOf h.next) ⟨w.heap.size, 0, 0⟩) q = μ q := fun q c => Mu.set_ne μ _ c
  have hgeth : ∀ q, H.get ⟨h.h, h.next + 1⟩ q = h.get q := fun q => rfl
  have hlive : ∀ q, Live ⟨h.h, h.next + 1⟩ (lput ls (paOf h.next) L) q → q = paOf h.next ∨ Live h ls q := fun q hq => by
    by_cases c : q = paOf h.next
    · exact .inl c
    · refine .inr ?_
      rcases hq with hq | hq
      · exact .inl hq
      · rw [get_lput, if_neg c] at hq; exact .inr hq
  have hblk : ∀ q e, Live h ls q → μ q = some e → e.blk < w.heap.size := fun q e hq he => by
    rcases hq with hq | hq
    · cases k : h.get q with
      | none => exact absurd k hq
      | some y => obtain ⟨o, h1, _⟩ := R.obj q y e k he; exact (Array.getElem?_eq_some_iff.1 h1).1
    · cases k : T.get none q ls with
      | none => exact absurd k hq
      | some L => obtain ⟨o, h1, _⟩ := R.lp q L e k he; exact (Array.getElem?_eq_some_iff.1 h1).1
  have hdead : ¬ Live h ls (paOf h.next) := fun c => by have := R.live _ c; rw [hnum] at this; omega
  have hold : ∀ i, i < w.heap.size → (w.heap.push o)[i]? = w.heap[i]? := fun i hi => by rw [Array.getElem?_push_lt hi, Array.getElem?_eq_getElem hi]
  refine ⟨?_, hle, fun b hb => Mu.set_ne μ _ (fun c => by rw [c, hnum] at hb; omega), by omega⟩
  constructor
  · intro q y d hq hd
    have c : q ≠ paOf h.next := fun c => by rw [c] at hq; rw [hgeth, g1] at hq; cases hq
    rw [hset q c] at hd
    obtain ⟨o1, h1, h2⟩ := R.obj q y d hq hd
    exact ⟨o1, by show (w.heap.push o)[d.blk]? = _; rw [hold _ (hblk q d (.inl (by rw [← hgeth, hq]; simp)) hd)]; exact h1, h2.mono hle⟩
  · intro q M d hq hd
    rw [get_lput] at hq
    by_cases c : q = paOf h.next
    · rw [if_pos c] at hq; cases hq
      rw [c, Mu.set_same] at hd; cases hd
      exact ⟨o, by show (w.heap.push o)[w.heap.size]? = _; simp, ho⟩
    · rw [if_neg c] at hq
      rw [hset q c] at hd
      obtain ⟨o1, h1, h2⟩ := R.lp q M d hq hd
      exact ⟨o1, by show (w.heap.push o)[d.blk]? = _; rw [hold _ (hblk q d (.inr (by rw [hq]; simp)) hd)]; exact h1, X.LRm _ _ _ _ hle h2⟩
  · intro q hq
    rw [hgeth] at hq
    rw [get_lput, if_neg (fun c => hq (by rw [c]; exact g1))]
    exact R.apart q hq
  · intro q q' d d' a a' hd hd' hk
    rcases hlive q a with c | a1
    · rw [c] at hd ⊢
      rcases hlive q' a' with c' | a2
      · rw [c']
      · have c' : q' ≠ paOf h.next := fun c => hdead (c ▸ a2)
        rw [hset q' c'] at hd'
        rw [Mu.set_same] at hd; cases hd
        have := hblk q' d' a2 hd'
        simp only at hk; omega
    · have c : q ≠ paOf h.next := fun c => hdead (c ▸ a1)
      rw [hset q c] at hd
      rcases hlive q' a' with c' | a2
      · rw [c', Mu.set_same] at hd'; cases hd'
        have := hblk q d a1 hd
        simp only at hk; omega
      · have c' : q' ≠ paOf h.next := fun c => hdead (c ▸ a2)
        rw [hset q' c'] at hd'
        exact R.inj q q' d d' a1 a2 hd hd' hk
  · intro q d a hd
    rcases hlive q a with c | a1
    · rw [c, Mu.set_same] at hd; cases hd
      exact .inl R.below.size
    · have c : q ≠ paOf h.next := fun c => hdead (c ▸ a1)
      rw [hset q c] at hd
      exact R.fresh q d a1 hd
  · intro q d hd
    show q.num < h.next + 1
    by_cases c : q = paOf h.next
    · rw [c, hnum]; omega
    · rw [hset q c] at hd
      have := R.dom q d hd; omega
  · intro q a
    show q.num < h.next + 1
    rcases hlive q a with c | a1
    · rw [c, hnum]; omega
    · have := R.live q a1; omega
  · show h.next + 1 ≤ big; omega
  · intro g hg; exact hle _ _ (R.glob g hg)
  · refine ⟨R.below.os, R.below.tape, R.below.output, ?_, fun i hi => ?_⟩
    · show w0.heap.size ≤ (w.heap.push o).size
      rw [Array.size_push]; have := R.below.size; omega
    · show (w.heap.push o)[i]? = _
      rw [hold i (by have := R.below.size; omega)]
      exact R.below.block i hi
end PH.R
/-
  The reckoner: regions.
-/
namespace PH.R
open Go Go.RowKit
section
variable {X : Cx} {ty : Nat → Option D.Ty} {ts : List (Nat × TE)} {E : Env} {cs0 : List Frame} {w0 : World}
variable {k : K} {t : TV} {l : List I} {h : H} {r : Cf → Bool} {b : Frame} {a : Act} {m : List Item} {ops : Array Oper} {cs : List Frame} {μ : Mu} {lo : Nat} {w : World}

theorem ARel.weak {x : Fx} {pend pend' : Nat → Prop} (A : ARel X μ x t pend b a) (h : ∀ u, pend u → pend' u) : ARel X μ x t pend' b a :=
  ⟨A.fn, ⟨A.tmp.1, A.tmp.2.1, fun u hu hn => A.tmp.2.2 u hu fun c => hn (h u c)⟩, A.dfs, A.kd, A.rnd⟩
/-- Operations, one behind the other. -/
theorem seq_ok (Pg : Prg X ty ts E) (Ex : ExtOk X ty ts E) (ht : TR X ty ts k.x.n l m) : ∀ (idxs : List Nat) (t : TV) (h : H) (a : Act) (μ : Mu) (w : World), (∀ j, j ∈ idxs → j < ops.size) → HRel X μ h k.ls w0 w → lo ≤ h.next → ARel X μ k.x t (fun _ => False) b a → CsRel X ty ts cs0 μ lo k.cs cs →
    quiets (seqK l k r) (seqL E l k r) (idxs.map (om X.P X.ms ty ts k.x.n ops)) t h = true → Sm X ty ts cs0 w0 r (lone (b.atR a (.inRegion ops idxs :: m)) cs w)
  | [], t, h, a, μ, w, _, R, hlo, A, C, q => Sm.head stepR_region_end (Sm.run q R hlo A (.plain ht) C)
  | i :: idxs, t, h, a, μ, w, hlt, R, hlo, A, C, q => by
    obtain ⟨oo, hoo⟩ := has_op (hlt i (by simp))
    have hlt' : ∀ j, j ∈ idxs → j < ops.size := fun j hj => hlt j (by simp [hj])
    have q : bc (wanted t (om X.P X.ms ty ts k.x.n ops i).g) (doS (om X.P X.ms ty ts k.x.n ops i) t h (fun f => f t h (out E k t (.seq (om X.P X.ms ty ts k.x.n ops i :: idxs.map (om X.P X.ms ty ts k.x.n ops)) :: l) r h)) (quiets (seqK l k r) (seqL E l k r) (idxs.map (om X.P X.ms ty ts k.x.n ops))))
      (quiets (seqK l k r) (seqL E l k r) (idxs.map (om X.P X.ms ty ts k.x.n ops)) (putD (om X.P X.ms ty ts k.x.n ops i).d undV t) h) = true := q
    have hom := om_get (X := X) (ty := ty) (ts := ts) (n := k.x.n) hoo
    have hmd : (om X.P X.ms ty ts k.x.n ops i).d = sD oo.dst := Wait.head_d (μ := μ) (lo := lo) (hi := lo) (t := t) hoo
    obtain ⟨_, ⟨hbad, hg⟩ | ⟨hdst, hop, hgd⟩⟩ := dO_inv (X := X) (ty := ty) (ts := ts) (n := k.x.n) (ops := ops) (o := oo)
    · have hw : wanted t (om X.P X.ms ty ts k.x.n ops i).g = true := by
        rw [hom]
        show wanted t (sG (dO X.P X.ms ty ts k.x.n ops oo).g) = true
        rw [hg]; rfl
      rw [hw, bc_true] at q
      unfold doS at q
      rw [show (om X.P X.ms ty ts k.x.n ops i).s = .l lBad from by rw [hom]; show sOp _ = _; rw [hbad]; rfl] at q
      cases q
    have hwt := wanted_good A.tmp hgd (fun _ _ c => c.elim)
    have hX : Xs X μ t a.eval oo.op.operands.toList := xs_ok (ops := ops) (o := oo) A (fun _ _ c => c.elim)
    have St : Sit X ty ts μ h k.ls w0 w a.eval := ⟨Pg.tt, Pg.mm, Pg.tso, R, evOk a⟩
    rw [bc_eq] at q
    by_cases hw : wanted t (om X.P X.ms ty ts k.x.n ops i).g = true
    · rw [if_pos hw] at q
      rw [hom] at hw
      rw [hw] at hwt
      revert q
      cases hs : (om X.P X.ms ty ts k.x.n ops i).s with
      | q f =>
        intro q
        have hs' : sOp (dO X.P X.ms ty ts k.x.n ops oo).op = .q f := by rw [← hs, hom]; rfl
        have hnd := op_dfr hop (not_dfr (.inl ⟨f, hs'⟩))
        have hSR := opOf_ok (t := t) St hX hop hnd
        rw [hs'] at hSR
        unfold doS at q
        rw [hs] at q
        obtain ⟨v, x, q1, q2, q3⟩ := hSR _ q
        rw [hmd] at q1
        refine Sm.head (stp_value hoo hwt (by rw [Oper.semAt_eq _ _ _ hnd]; exact q3)) ?_
        rw [fin_eq hoo]
        exact seq_ok Pg Ex ht idxs _ h _ μ w hlt' R hlo (put_rel A q2 hdst (fun u c => c.elim)) C q1
      | a f =>
        intro q
        have hs' : sOp (dO X.P X.ms ty ts k.x.n ops oo).op = .a f := by rw [← hs, hom]; rfl
        have hnd := op_dfr hop (not_dfr (.inr ⟨f, hs'⟩))
        have hSR := opOf_ok (t := t) St hX hop hnd
        rw [hs'] at hSR
        unfold doS at q
        rw [hs] at q
        obtain ⟨x, mk, o, z, w', off, cap, q1, q2, q3, q4⟩ := hSR _ q
        obtain ⟨hn, h', q1, hh⟩ := new_true' q1
        rw [hmd] at q1
        have hnone := (H.get_none_of R (b := paOf h.next) (by rw [num_paOf hn]; exact Nat.le_refl _)).2.2
        obtain ⟨c1, c2⟩ := q4 (paOf h.next) _ (Mu.le_set hnone) (Mu.set_same μ (paOf h.next) ⟨w.heap.size, off, cap⟩)
        obtain ⟨R', he⟩ := R.add hn hh q3 c2
        refine Sm.head (stp_value hoo hwt (by rw [Oper.semAt_eq _ _ _ hnd]; exact q2)) ?_
        rw [fin_eq hoo]
        exact seq_ok Pg Ex ht idxs _ h' _ _ w' hlt' R' (Nat.le_trans hlo he.2.2) (put_rel (A.mono he.1) c1 hdst (fun u c => c.elim)) (C.mono he.1 (fun q hq => he.2.1 q (Nat.lt_of_lt_of_le hq hlo)) (Nat.le_refl _)) q1
      | l f =>
        intro q
        unfold doS at q
        rw [hs] at q
        exact loud_ok Pg Ex ⟨R, hlo, A, .seq ht hlt (fun oo' d e1 e2 => by rw [hoo] at e1; cases e1; exact hdst d e2), C, hoo, hwt⟩ hX (by rw [← hs, hom]) q
    · rw [if_neg hw, hmd] at q
      have hw : wanted t (om X.P X.ms ty ts k.x.n ops i).g = false := by simpa using hw
      rw [hom] at hw
      rw [hw] at hwt
      refine Sm.head (stp_no hoo hwt) ?_
      rw [fin_eq hoo]
      exact seq_ok Pg Ex ht idxs _ h _ μ w hlt' R hlo (put_rel A (rv_und X μ) hdst (fun u c => c.elim)) C q
end
end PH.R
/-
  The reckoner: regions that draw their order: a step.
-/
namespace PH.R
open Go Go.RowKit
section
variable {X : Cx} {ty : Nat → Option D.Ty} {ts : List (Nat × TE)} {E : Env} {cs0 : List Frame} {w0 : World}
variable {k : K} {t : TV} {l : List I} {h : H} {r : Cf → Bool} {b : Frame} {a : Act} {m : List Item} {ops : Array Oper} {cs : List Frame} {μ : Mu} {lo : Nat} {w : World}
theorem rd_ok (Pg : Prg X ty ts E) (Ex : ExtOk X ty ts E) (ht : TR X ty ts k.x.n l m) {done lc : Nat} {ps : List D.PS} {idxs : List Nat} (R : HRel X μ h k.ls w0 w) (hlo : lo ≤ h.next) (G : Reg X ty ts k.x.n ops done lc ps idxs) (Pn : Pnd X ty ts μ lo h.next t k.x.n ops done idxs)
    (Rs : ∀ j, isP done idxs j → Res X t h (om X.P X.ms ty ts k.x.n ops j)) (hps : ps = [] ∨ ∃ o re ps', ps = .l o re :: ps') (A : ARel X μ k.x t (pendOf ops done idxs) b a) (C : CsRel X ty ts cs0 μ lo k.cs cs) (q : stRd E (sPSs ps) l k t h r = true) :
    Sm X ty ts cs0 w0 r (lone (b.atR a (.inRegion ops idxs :: m)) cs w) := by
  obtain ⟨idxs', a', μ', w', hst, R', G', Pn', Rs', A', hle, hlow, hend⟩ := ahead_ok (m := m) (cs := cs) Pg idxs R G Pn Rs A
  refine Sm.of hst ?_
  have C' := C.mono hle hlow (Nat.le_refl _)
  rcases hend with rfl | ⟨i, rest, rfl, hnd⟩
  · rcases hps with rfl | ⟨o, re, ps', rfl⟩
    · refine Sm.head stepR_region_end (Sm.run q R' hlo (A'.weak fun u ⟨j, oj, c, _⟩ => by cases c.1) (.plain ht) C')
    · exfalso
      obtain ⟨f, hp⟩ := G'.plan
      obtain ⟨f', ⟨i, ps', h1, _⟩ | ⟨h1, _⟩ | ⟨i, ps', h1, h2, _⟩⟩ := plan_inv hp
      · cases h1
      · cases h1
      · have : i ∈ rdy (dOs X.P X.ms ty ts k.x.n ops).length (deps ops) done := by rw [h2]; simp
        obtain ⟨c1, c2, _⟩ := ready_iff.1 this
        have := G'.out i c1 (by simp)
        rw [c2] at this; cases this
  · obtain ⟨oo, re, ps', f, hoo, rfl, hloud, hb, hre, hp⟩ := G'.head hnd hps
    have q : bc (wanted t (sO (dO X.P X.ms ty ts k.x.n ops oo)).g) (match (sO (dO X.P X.ms ty ts k.x.n ops oo)).s with
      | .l f => f t h (out E k t (.rd (.l (sO (dO X.P X.ms ty ts k.x.n ops oo)) (sOs re) :: sPSs ps') :: l) r h)
      | _ => false) (go k t (.rd (.l (sO (dO X.P X.ms ty ts k.x.n ops oo)) (sOs re) :: sPSs ps') :: l) undV h r) = true := q
    obtain ⟨_, ⟨hbad, hg⟩ | ⟨hdst, hop, hgd⟩⟩ := dO_inv (X := X) (ty := ty) (ts := ts) (n := k.x.n) (ops := ops) (o := oo)
    · have hw : wanted t (sO (dO X.P X.ms ty ts k.x.n ops oo)).g = true := by
        show wanted t (sG (dO X.P X.ms ty ts k.x.n ops oo).g) = true
        rw [hg]; rfl
      rw [hw, bc_true, show (sO (dO X.P X.ms ty ts k.x.n ops oo)).s = .l lBad from by show sOp _ = _; rw [hbad]; rfl] at q
      cases q
    have hseen : ∀ u, u ∈ D.looksAt ops.toList oo → ¬ pendOf ops done (i :: rest) u := fun u hu => G'.seen hoo hu
    have hwt := wanted_good A'.tmp hgd hseen
    have hX : Xs X μ' t a'.eval oo.op.operands.toList := xs_ok (ops := ops) (o := oo) A' hseen
    have W : Wait X ty ts μ' lo h.next k.x.n t (.rd (.l (sO (dO X.P X.ms ty ts k.x.n ops oo)) (sOs re) :: sPSs ps') :: l) (.inRegion ops (i :: rest) :: m) (pendOf ops done (i :: rest)) :=
      .rd ht G' hnd Pn' (fun oo' d e1 e2 => by rw [hoo] at e1; cases e1; exact hdst d e2)
    rw [bc_eq] at q
    by_cases hw : wanted t (sO (dO X.P X.ms ty ts k.x.n ops oo)).g = true
    · rw [if_pos hw] at q
      rw [hw] at hwt
      revert q
      cases hs : (sO (dO X.P X.ms ty ts k.x.n ops oo)).s with
      | q f => intro q; cases q
      | a f => intro q; cases q
      | l f => intro q; exact loud_ok Pg Ex ⟨R', hlo, A', W, C', hoo, hwt⟩ hX hs q
    · rw [if_neg hw] at q
      have hw : wanted t (sO (dO X.P X.ms ty ts k.x.n ops oo)).g = false := by simpa using hw
      rw [hw] at hwt
      exact Sm.head (stp_no hoo hwt) (go_ok R' hlo A' W (Nat.le_refl _) C' (rv_und X μ') q)

/-! Ways out -/
theorem exitTo_tr {n : Nat} (id : Nat) : ∀ {l : List I} {m : List Item}, TR X ty ts n l m → (∃ l' m', exitTo id l = some l' ∧ Go.exitTo id m = some m' ∧ TR X ty ts n l' m') ∨ exitTo id l = none ∧ Go.exitTo id m = none
  | _, _, .nil => .inr ⟨rfl, rfl⟩
  | _, _, .code c h => by
    rcases exitTo_tr id h with ⟨l', m', a, b, c⟩ | ⟨a, b⟩
    · exact .inl ⟨l', m', a, by simp [Go.exitTo, b], c⟩
    · exact .inr ⟨a, by simp [Go.exitTo, b]⟩
  | _, _, .loop c h => by
    rcases exitTo_tr id h with ⟨l', m', a, b, c⟩ | ⟨a, b⟩
    · exact .inl ⟨l', m', a, by simp [Go.exitTo, b], c⟩
    · exact .inr ⟨a, by simp [Go.exitTo, b]⟩
  | _, _, .scope c h => by
    rcases exitTo_tr id h with ⟨l', m', a, b, c⟩ | ⟨a, b⟩
    · exact .inl ⟨l', m', a, by simp [Go.exitTo, b], c⟩
    · exact .inr ⟨a, by simp [Go.exitTo, b]⟩
  | _, _, .br h => by
    rcases exitTo_tr id h with ⟨l', m', a, b, c⟩ | ⟨a, b⟩
    · exact .inl ⟨l', m', a, by simp [Go.exitTo, b], c⟩
    · exact .inr ⟨a, by simp [Go.exitTo, b]⟩
  | .blk id' :: l, .inBlock _ :: m, .blk _ h => by
    by_cases e : id' = id
    · subst e
      refine .inl ⟨l, m, ?_, by simp [Go.exitTo], h⟩
      show bc (Nat.beq id' id') (some l) (exitTo id' l) = some l
      rw [Nat.beq_refl]; rfl
    · have h1 : exitTo id (.blk id' :: l) = exitTo id l := by
        show bc (Nat.beq id' id) (some l) (exitTo id l) = _
        rw [bc_eq, if_neg (fun c => e (Nat.eq_of_beq_eq_true c))]
      have h2 : Go.exitTo id (.inBlock id' :: m) = Go.exitTo id m := by
        simp [Go.exitTo, e]
      rw [h1, h2]
      exact exitTo_tr id h
theorem findL_cc (n lb : Nat) : ∀ (c : Code), findL (cc X.P X.ms ty ts n c) lb = (findLabel c lb).map (cc X.P X.ms ty ts n)
  | .seq x y => by
    have ex := findL_cc n lb x
    have ey := findL_cc n lb y
    show (match findL (cc X.P X.ms ty ts n x) lb with | some r => some (C.seq r (cc X.P X.ms ty ts n y)) | none => findL (cc X.P X.ms ty ts n y) lb) = (match findLabel x lb with | some rest => some (Code.seq rest y) | none => findLabel y lb).map _
    rw [ex]
    cases findLabel x lb with
    | none => exact ey
    | some r => rfl
  | .label l' => by
    show bc (Nat.beq l' lb) (some C.skip) none = (if l' == lb then some Code.skip else none).map _
    rw [bc_eq]
    by_cases e : l' = lb
    · subst e; simp; rfl
    · rw [if_neg (fun c => e (Nat.eq_of_beq_eq_true c)), if_neg (by simpa using e)]; rfl
  | .skip => rfl
  | .region id ops true => by
    show findL (sC (match D.planOf ty X.ms ts X.P.globals.size n ops with | some ps => .regD ps | none => .bad)) lb = none
    cases D.planOf ty X.ms ts X.P.globals.size n ops <;> rfl
  | .region id ops false => rfl
  | .cond c x y => by
    show findL (sC (match D.xOf X.P.globals.size c with | some c => .cond c _ _ | none => .bad)) lb = none
    cases D.xOf X.P.globals.size c <;> rfl
  | .block _ _ => rfl
  | .loop _ => rfl
  | .rangeFunc f ps x y => by
    show findL (sC (match D.xOf X.P.globals.size f with | some f => if ps.any (n ≤ ·) then .bad else .rf f ps.toList _ _ | none => .bad)) lb = none
    cases D.xOf X.P.globals.size f with
    | none => rfl
    | some f => simp only; split <;> rfl
  | .exit _ => rfl
  | .scope _ => rfl
  | .goto _ => rfl
  | .ret => rfl
  | .refuse _ => rfl
theorem gotoIn_tr {n : Nat} (lb : Nat) : ∀ {l : List I} {m : List Item}, TR X ty ts n l m → (∃ l' m', gotoIn lb l = some l' ∧ Go.gotoIn lb m = some m' ∧ TR X ty ts n l' m') ∨ gotoIn lb l = none ∧ Go.gotoIn lb m = none
  | _, _, .nil => .inr ⟨rfl, rfl⟩
  | _, _, .code c h => by
    rcases gotoIn_tr lb h with ⟨l', m', a, b, c⟩ | ⟨a, b⟩
    · exact .inl ⟨l', m', a, by simp [Go.gotoIn, b], c⟩
    · exact .inr ⟨a, by simp [Go.gotoIn, b]⟩
  | _, _, .loop c h => by
    rcases gotoIn_tr lb h with ⟨l', m', a, b, c⟩ | ⟨a, b⟩
    · exact .inl ⟨l', m', a, by simp [Go.gotoIn, b], c⟩
    · exact .inr ⟨a, by simp [Go.gotoIn, b]⟩
  | _, _, .blk c h => by
    rcases gotoIn_tr lb h with ⟨l', m', a, b, c⟩ | ⟨a, b⟩
    · exact .inl ⟨l', m', a, by simp [Go.gotoIn, b], c⟩
    · exact .inr ⟨a, by simp [Go.gotoIn, b]⟩
  | _, _, .br h => by
    rcases gotoIn_tr lb h with ⟨l', m', a, b, c⟩ | ⟨a, b⟩
    · exact .inl ⟨l', m', a, by simp [Go.gotoIn, b], c⟩
    · exact .inr ⟨a, by simp [Go.gotoIn, b]⟩
  | .scope _ :: l, .inScope _ :: m, .scope c h => by
    have h1 : gotoIn lb (.scope (cc X.P X.ms ty ts n c) :: l) = match findL (cc X.P X.ms ty ts n c) lb with
      | some r => some (.code r :: .scope (cc X.P X.ms ty ts n c) :: l)
      | none => gotoIn lb l := rfl
    have h2 : Go.gotoIn lb (.inScope c :: m) = match findLabel c lb with
      | some rest => some (.code rest :: .inScope c :: m)
      | none => Go.gotoIn lb m := rfl
    rw [h1, h2, findL_cc]
    cases findLabel c lb with
    | none => exact gotoIn_tr lb h
    | some r => exact .inl ⟨_, _, rfl, rfl, .code r (.scope c h)⟩
end
end PH.R
/-
  The reckoner: frames left; loops over functions.
-/
namespace PH.R
open Go Go.RowKit
section
variable {X : Cx} {ty : Nat → Option D.Ty} {ts : List (Nat × TE)} {E : Env} {cs0 : List Frame} {w0 : World}
variable {k : K} {t : TV} {l : List I} {h : H} {r : Cf → Bool} {b : Frame} {a : Act} {m : List Item} {items : List Item} {cs : List Frame} {μ : Mu} {lo : Nat} {w : World}
theorem back_ok {f : Fr} {fs : List Fr} {ls : T (Option Lp)} {v : V} {z : Value} (R : HRel X μ h ls w0 w) (hlo : lo ≤ h.next) (C : CsRel X ty ts cs0 μ lo (f :: fs) cs) (hv : X.Rv μ v z) (q : back f fs ls v h r = true) :
    ∃ c cs', cs = c :: cs' ∧ Sm X ty ts cs0 w0 r (lone (c.finish z) cs' w) := by
  cases cs with
  | nil => exact C.elim
  | cons c cs' =>
    obtain ⟨lo', h1, ⟨b', a', todo', pend', A', h2, _⟩, C'⟩ := C
    obtain ⟨x, t', td, run⟩ := f
    obtain ⟨hr, q⟩ := ok_true.1 (show ok run (go ⟨x, fs, ls⟩ t' td v h r) = true from q)
    obtain ⟨rfl, W⟩ := h2 hr
    exact ⟨_, cs', rfl, go_ok (k := ⟨x, fs, ls⟩) R (Nat.le_trans h1 hlo) A' W hlo C' hv q⟩
theorem leave_ok {jump : Option C} {jump' : Option Code} (Pg : Prg X ty ts E) (R : HRel X μ h k.ls w0 w) (hlo : lo ≤ h.next) (A : ARel X μ k.x t (fun _ => False) b a) (C : CsRel X ty ts cs0 μ lo k.cs cs) (hj : jRel jump jump')
    (hret : b.roundOf = none → mayRet jump = true → Go.step X.P (lone (b.atR a items) cs w) = .next (lone { b.atR a items with mode := .returning } cs w))
    (hrnd : ∀ l v w' c cs', b.roundOf = some l → b.kind = .normal → (Instr.endRound l jump').run X.P w = .ok v w' → Go.step X.P (lone (b.atR a items) (c :: cs') w) = .next (lone (c.finish v) cs' w'))
    (q : leave k t h jump r = true) : Sm X ty ts cs0 w0 r (lone (b.atR a items) cs w) := by
  obtain ⟨⟨fn, n, dfs, kd, rnd⟩, frs, ls⟩ := k
  have hb := A.rnd
  cases rnd with
  | none =>
    have hb : b.roundOf = none := hb
    obtain ⟨hm, q⟩ := ok_true.1 (show ok (mayRet jump) (r (.ret ⟨⟨fn, n, dfs, kd, none⟩, frs, ls⟩ t h)) = true from q)
    exact Sm.head (hret hb hm) ⟨.ret ⟨⟨fn, n, dfs, kd, none⟩, frs, ls⟩ t h, _, .refl _ _, ⟨μ, lo, w, b, a, items, cs, rfl, R, hlo, A, C⟩, q⟩
  | some l =>
    obtain ⟨e, he, hb⟩ := hb
    obtain ⟨L, hl, q⟩ := ob_true.1 (show ob (T.get none l ls) (leaveL frs kd ls l h jump r) = true from q)
    obtain ⟨lp, h1, h2, h3, h4, h5, h6, h7, h8, h9, dd, hd, hdb⟩ := LpRel.at Pg R hl he
    obtain ⟨st, pending, fn', n', tmps, params, assign, body, defers⟩ := L
    have core : ∀ (st' : Ls) (state' : LoopState) (v : Bool) (c : Fr) (fs : List Fr), frs = c :: fs → kd = .normal → lsRel st' state' → (if jump'.isNone then LoopState.ready else LoopState.done) = state' → jump'.isNone = v → back c fs (lput ls l ⟨st', jump, fn', n', tmps, params, assign, body, defers⟩) (.b v) h r = true →
        Sm X ty ts cs0 w0 r (lone (b.atR a items) cs w) := by
      rintro st' state' v c fs rfl rfl hst hst' hv q
      have hrun : (Instr.endRound e.blk jump').run X.P w = .ok (.bool v) { w with heap := w.heap.setIfInBounds e.blk (.loop { lp with state := state', pending := jump' }) } := by
        unfold Instr.endRound
        simp only [Sem.run_bind, run_getLoop h1, Result.andThen_ok, run_setObj h1 (by simp), Sem.run_pure]
        rw [hst', hv]
      have R' := R.lset (L' := ⟨st', jump, fn', n', tmps, params, assign, body, defers⟩) (o' := .loop { lp with state := state', pending := jump' }) hl he ((Pg.lr _ _ _).2 ⟨_, rfl, hst, h3, h4, h5, h6, h7, h8, hj, dd, hd, hdb⟩)
      obtain ⟨cf, cs', rfl, S⟩ := back_ok R' hlo C (rv_bool X μ v) q
      exact Sm.head (hrnd e.blk _ _ cf cs' hb A.kd hrun) S
    unfold leaveL at q
    cases frs with
    | nil => cases q
    | cons c fs =>
      cases kd with
      | deferred => cases q
      | normal =>
        cases jump with
        | none =>
          cases jump' with
          | some _ => exact False.elim hj
          | none => exact core .ready .ready true c fs rfl rfl trivial rfl rfl q
        | some j =>
          cases jump' with
          | none => cases j <;> exact False.elim hj
          | some j' => exact core .done .done false c fs rfl rfl trivial rfl rfl q

/-- The loop has come to its end. -/
theorem erf_ok (Pg : Prg X ty ts E) (ht : TR X ty ts k.x.n l m) (R : HRel X μ h k.ls w0 w) (hlo : lo ≤ h.next) (A : ARel X μ k.x t (fun _ => False) b a) (C : CsRel X ty ts cs0 μ lo k.cs cs) {p : Pa} {e : Ent} (he : μ p = some e) (q : stErf p l k t h r = true) :
    Sm X ty ts cs0 w0 r (lone (b.atR a (.endRangeFunc e.blk :: m)) cs w) := by
  obtain ⟨x, frs, ls⟩ := k
  obtain ⟨L, hl, q⟩ := ob_true.1 (show ob (T.get none p ls) (fun L => match L with
    | ⟨st, pending, fn', n', tmps, params, assign, body, defers⟩ => match st with
      | .busy => false
      | _ => r (.run ⟨x, frs, lput ls p ⟨.exhausted, pending, fn', n', tmps, params, assign, body, defers⟩⟩ t (pendI pending l) h)) = true from q)
  obtain ⟨lp, h1, h2, h3, h4, h5, h6, h7, h8, h9, dd, hd, hdb⟩ := LpRel.at Pg R hl he
  obtain ⟨st, pending, fn', n', tmps, params, assign, body, defers⟩ := L
  have hst : st ≠ .busy := fun c => by subst c; cases q
  have hns : (lp.state == LoopState.busy) = false := by
    revert h2
    cases lp.state with
    | busy =>
      intro h2
      cases st with
      | busy => exact absurd rfl hst
      | ready => exact False.elim h2
      | done => exact False.elim h2
      | exhausted => exact False.elim h2
    | _ => intro _; rfl
  have q : r (.run ⟨x, frs, lput ls p ⟨.exhausted, pending, fn', n', tmps, params, assign, body, defers⟩⟩ t (pendI pending l) h) = true := by
    cases st <;> first | exact q | exact absurd rfl hst
  have hrun : (Instr.endLoop e.blk).run X.P w = .ok lp.pending { w with heap := w.heap.setIfInBounds e.blk (.loop { lp with state := .exhausted }) } := by
    unfold Instr.endLoop
    simp only [Sem.run_bind, run_getLoop h1, Result.andThen_ok, hns, Bool.false_eq_true, if_false, run_setObj h1 (by simp), Sem.run_pure]
  have R' := R.lset (L' := ⟨.exhausted, pending, fn', n', tmps, params, assign, body, defers⟩) (o' := .loop { lp with state := .exhausted }) hl he ((Pg.lr _ _ _).2 ⟨_, rfl, trivial, h3, h4, h5, h6, h7, h8, h9, dd, hd, hdb⟩)
  have hT : TR X ty ts x.n (pendI pending l) ((lp.pending.map Item.code).toList ++ m) := by
    cases pending with
    | none =>
      cases hp : lp.pending with
      | some _ => rw [hp] at h9; exact False.elim h9
      | none => exact ht
    | some j =>
      cases hp : lp.pending with
      | none => rw [hp] at h9; cases j <;> exact False.elim h9
      | some j' =>
        rw [hp] at h9
        have hjj : j = cc X.P X.ms ty ts x.n j' := by
          cases j <;> cases j' <;> first | exact False.elim h9 | rfl | (cases (show _ = _ from h9); rfl)
        rw [hjj]
        exact .code j' ht
  exact Sm.head (stepR_endRangeFunc hrun) (Sm.run (k := ⟨x, frs, lput ls p ⟨.exhausted, pending, fn', n', tmps, params, assign, body, defers⟩⟩) q R' hlo A (.plain hT) C)
/-- A round begins. -/
theorem br_ok (Pg : Prg X ty ts E) (ht : TR X ty ts k.x.n l m) (R : HRel X μ h k.ls w0 w) (hlo : lo ≤ h.next) (A : ARel X μ k.x t (fun _ => False) b a) (C : CsRel X ty ts cs0 μ lo k.cs cs) (q : stBr l k t h r = true) :
    Sm X ty ts cs0 w0 r (lone (b.atR a (.beginRound :: m)) cs w) := by
  obtain ⟨⟨fn, n, dfs, kd, rnd⟩, frs, ls⟩ := k
  have hb := A.rnd
  cases rnd with
  | none => cases q
  | some p =>
    obtain ⟨e, he, hb⟩ := hb
    obtain ⟨L, hl, q⟩ := ob_true.1 (show ob (T.get none p ls) (fun L => match L with
      | ⟨.ready, pending, fn', n', tmps, params, assign, body, defers⟩ => r (.run ⟨⟨fn, n, dfs, kd, some p⟩, frs, lput ls p ⟨.busy, pending, fn', n', tmps, params, assign, body, defers⟩⟩ t l h)
      | _ => false) = true from q)
    obtain ⟨lp, h1, h2, h3, h4, h5, h6, h7, h8, h9, dd, hd, hdb⟩ := LpRel.at Pg R hl he
    obtain ⟨st, pending, fn', n', tmps, params, assign, body, defers⟩ := L
    cases st with
    | ready =>
      have hst : lp.state = .ready := by
        cases hs : lp.state <;> first | rfl | (rw [hs] at h2; exact False.elim h2)
      have hrun : (Instr.beginRound e.blk).run X.P w = .ok () { w with heap := w.heap.setIfInBounds e.blk (.loop { lp with state := .busy }) } := by
        unfold Instr.beginRound
        simp only [Sem.run_bind, run_getLoop h1, Result.andThen_ok, run_setObj h1 (by simp), hst, Sem.run_pure]
      have R' := R.lset (L' := ⟨.busy, pending, fn', n', tmps, params, assign, body, defers⟩) (o' := .loop { lp with state := .busy }) hl he ((Pg.lr _ _ _).2 ⟨_, rfl, trivial, h3, h4, h5, h6, h7, h8, h9, dd, hd, hdb⟩)
      exact Sm.head (stepR_beginRound hb hrun) (Sm.run (k := ⟨⟨fn, n, dfs, kd, some p⟩, frs, lput ls p ⟨.busy, pending, fn', n', tmps, params, assign, body, defers⟩⟩) q R' hlo A (.plain ht) C)
    | _ => cases q
end
end PH.R
/-
  The reckoner: ranges over functions; code.
-/
namespace PH.R
open Go Go.RowKit
section
variable {X : Cx} {ty : Nat → Option D.Ty} {ts : List (Nat × TE)} {E : Env} {cs0 : List Frame} {w0 : World}
variable {k : K} {t : TV} {l : List I} {h : H} {r : Cf → Bool} {b : Frame} {a : Act} {m : List Item} {items : List Item} {cs : List Frame} {μ : Mu} {lo : Nat} {w : World}
theorem sPas_eq (l : List Nat) : sPas l = l.map paOf := by
  induction l with
  | nil => rfl
  | cons x l ih => show paOf x :: sPas l = _; rw [ih]; rfl
/-- The record of a loop that begins. -/
def lp0 (b : Frame) (a : Act) (ps : Array Tmp) (as bd : Code) (d : Nat) : Loop := { state := .ready, pending := none, fn := b.fn, tmps := a.tmps, params := ps, assign := as, body := bd, defers := d }
theorem rf_core (Pg : Prg X ty ts E) {x : Fx} {frs : List Fr} {ls : T (Option Lp)} (ht : TR X ty ts x.n l m) (R : HRel X μ h ls w0 w) (hlo : lo ≤ h.next) (A : ARel X μ x t (fun _ => False) b a) (C : CsRel X ty ts cs0 μ lo frs cs) {d : Pa} {ed : Ent} (hd : μ d = some ed)
    {g : Nat} {first cap : List V} {F G : List Value} (hF : X.Rvs μ first F) (hG : X.Rvs μ cap G) {ps : Array Tmp} (hps : ∀ p ∈ ps, p < x.n) {as bd : Code} {tmps0 : Array Value} (htm : tmps0 = a.tmps)
    (q : stRfE E g first cap (sPas ps.toList) (cc X.P X.ms ty ts x.n as) (cc X.P X.ms ty ts x.n bd) l x frs ls t d h r = true) :
    ∃ fn, X.P.funcs[g]? = some fn ∧ (fn.name == "runtime.NumGoroutine") = false ∧ (∃ c', fn.body = some c') ∧
      Sm X ty ts cs0 w0 r (lone (Frame.enter X.P g (F ++ [Value.func (.yield w.heap.size) #[] #[]] ++ G).toArray .normal) (b.atR a (.inRangeFunc w.heap.size :: m) :: cs) { w with heap := w.heap.push (.loop { state := .ready, pending := none, fn := b.fn, tmps := tmps0, params := ps, assign := as, body := bd, defers := ed.blk }) }) := by
  subst htm
  obtain ⟨ht0, nx⟩ := h
  obtain ⟨hn, q⟩ := ok_true.1 (show ok (Nat.blt nx big) (callR E g (first ++ [.fy (paOf nx)] ++ cap) ⟨x, frs, lput ls (paOf nx) ⟨.ready, none, x.fn, x.n, t, sPas ps.toList, cc X.P X.ms ty ts x.n as, cc X.P X.ms ty ts x.n bd, d⟩⟩ t (.rf (paOf nx) :: l) ⟨ht0, nx + 1⟩ r) = true from q)
  have hn : nx < big := by simpa [Nat.blt_eq] using hn
  have hnone := (H.get_none_of R (b := paOf nx) (by rw [num_paOf hn]; exact Nat.le_refl _)).2.2
  have hle := Mu.le_set (e := (⟨w.heap.size, 0, 0⟩ : Ent)) hnone
  have hself : (μ.set (paOf nx) ⟨w.heap.size, 0, 0⟩) (paOf nx) = some ⟨w.heap.size, 0, 0⟩ := Mu.set_same _ _ _
  have hlr : X.LR (μ.set (paOf nx) ⟨w.heap.size, 0, 0⟩) ⟨.ready, none, x.fn, x.n, t, sPas ps.toList, cc X.P X.ms ty ts x.n as, cc X.P X.ms ty ts x.n bd, d⟩ (.loop { state := .ready, pending := none, fn := b.fn, tmps := a.tmps, params := ps, assign := as, body := bd, defers := ed.blk }) :=
    (Pg.lr _ _ _).2 ⟨_, rfl, trivial, A.fn, A.tmp.mono hle, sPas_eq _, hps, rfl, rfl, trivial, ed, hle _ _ hd, rfl⟩
  obtain ⟨R', he⟩ := HRel.ladd R hn hlr
  unfold callR at q
  obtain ⟨hg, q⟩ := ok_true.1 q
  have hg : g < big := by simpa [Nat.blt_eq] using hg
  obtain ⟨fn, hE, q⟩ := ob_true.1 q
  cases fn with
  | ext e => cases q
  | code n res c =>
    obtain ⟨fn, c', res', h1, h2, h3, h4, h5, _⟩ := fn_code Pg hg hE
    have q : ok (Nat.ble (lenL (first ++ [.fy (paOf nx)] ++ cap) 0) n) (ok (Nat.blt n big) (r (.run ⟨⟨g, n, [], .normal, none⟩, ⟨x, t, .rf (paOf nx) :: l, true⟩ :: frs, lput ls (paOf nx) ⟨.ready, none, x.fn, x.n, t, sPas ps.toList, cc X.P X.ms ty ts x.n as, cc X.P X.ms ty ts x.n bd, d⟩⟩ (argsT (first ++ [.fy (paOf nx)] ++ cap) 0 .lf) [.code c] ⟨ht0, nx + 1⟩))) = true := q
    obtain ⟨c1, q⟩ := ok_true.1 q
    obtain ⟨c2, q⟩ := ok_true.1 q
    have c1 : lenL (first ++ [.fy (paOf nx)] ++ cap) 0 ≤ n := by simpa using c1
    have c2 : n < big := by simpa [Nat.blt_eq] using c2
    have hy : X.Rv (μ.set (paOf nx) ⟨w.heap.size, 0, 0⟩) (.fy (paOf nx)) (.func (.yield w.heap.size) #[] #[]) := by
      unfold Cx.Rv
      simp only [conc, hself, Option.map_some]
    have hargs : X.Rvs (μ.set (paOf nx) ⟨w.heap.size, 0, 0⟩) (first ++ [.fy (paOf nx)] ++ cap) (F ++ [Value.func (.yield w.heap.size) #[] #[]] ++ G) :=
      rvs_append (rvs_append (Cx.Rvs.mono hF hle) ((concs_cons X.ms).2 ⟨_, [], hy, rfl, rfl⟩)) (Cx.Rvs.mono hG hle)
    have hfr : FrRel X ty ts (μ.set (paOf nx) ⟨w.heap.size, 0, 0⟩) lo (nx + 1) ⟨x, t, .rf (paOf nx) :: l, true⟩ (b.atR a (.inRangeFunc w.heap.size :: m)) :=
      ⟨b, a, _, _, A.mono hle, fun _ => ⟨rfl, .rf ht hself⟩, fun e => by cases e⟩
    refine ⟨fn, h1, h2, ⟨c', h3⟩, enter_ok R' hfr (Nat.le_trans hlo he.2.2) (C.mono hle (fun q hq => he.2.1 q (Nat.lt_of_lt_of_le hq hlo)) (Nat.le_refl _)) hargs h1 h3 h4 h5 c1 c2 rfl q⟩
theorem run_resolve {a : Act} {fo : Operand} {g : Nat} {F G : List Value} (hf : a.eval fo = .func (.func g) F.toArray G.toArray) (lb : Nat) (w : World) : (resolve a.eval (rangeCall fo lb) 0).run X.P w = .ok { target := .fn (.func g) G.toArray, args := F.toArray ++ #[Value.func (.yield lb) #[] #[]] } w := by
  unfold resolve rangeCall
  simp only [hf, Deferred.ofValue]
  rw [show Array.map a.eval #[Operand.const (Value.func (.yield lb) #[] #[])] = #[Value.func (.yield lb) #[] #[]] from by simp [Act.eval]]
  rfl
theorem rf_ok (Pg : Prg X ty ts E) (ht : TR X ty ts k.x.n l m) (R : HRel X μ h k.ls w0 w) (hlo : lo ≤ h.next) (A : ARel X μ k.x t (fun _ => False) b a) (C : CsRel X ty ts cs0 μ lo k.cs cs) {fo : Operand} {fx : D.X} (hfx : D.xOf X.P.globals.size fo = some fx) {ps : Array Tmp} (hps : ∀ p ∈ ps, p < k.x.n) {as bd : Code}
    (q : stRf E (sX fx) (sPas ps.toList) (cc X.P X.ms ty ts k.x.n as) (cc X.P X.ms ty ts k.x.n bd) l k t h r = true) :
    Sm X ty ts cs0 w0 r (lone (b.atR a (.code (.rangeFunc fo ps as bd) :: m)) cs w) := by
  obtain ⟨⟨fn, n, dfs, kd, rnd⟩, frs, ls⟩ := k
  have hfo := xOf_ok R (evOk a) (A.ev (y := fo) fun _ _ c => c) hfx
  unfold stRf at q
  rcases asFu_true q with ⟨g, first, cap, e1, q⟩ | ⟨_, _, q⟩ | ⟨_, _, _, _, q⟩
  · rw [e1] at hfo
    obtain ⟨F, G, hF, hG, e2⟩ := rv_fu hfo
    have hb := A.rnd
    cases rnd with
    | some p =>
      obtain ⟨e, he, hb⟩ := hb
      obtain ⟨L, hl, q⟩ := ob_true.1 (show ob (T.get none p ls) (fun L => stRfE E g first cap (sPas ps.toList) (cc X.P X.ms ty ts n as) (cc X.P X.ms ty ts n bd) l ⟨fn, n, dfs, kd, some p⟩ frs ls t L.defers h r) = true from q)
      obtain ⟨lp, h1, h2, h3, h4, h5, h6, h7, h8, h9, dd, hd, hdb⟩ := LpRel.at Pg R hl he
      obtain ⟨fn', f1, f2, ⟨c', f3⟩, S⟩ := rf_core Pg (x := ⟨fn, n, dfs, kd, some p⟩) ht R hlo A C hd hF hG hps rfl q
      have hent : (Instr.enterLoop b.fn a.tmps ps as bd b.roundOf).run X.P w = .ok (w.heap.size, []) { w with heap := w.heap.push (.loop { state := .ready, pending := none, fn := b.fn, tmps := a.tmps, params := ps, assign := as, body := bd, defers := dd.blk }) } := by
        unfold Instr.enterLoop
        rw [hb]
        simp only [Sem.run_bind, run_getLoop h1, Result.andThen_ok, Sem.run_pure, hdb]
        rfl
      have hinv : ∀ W : World, (invoke (.fn (.func g) G.toArray) (F.toArray ++ #[Value.func (.yield w.heap.size) #[] #[]])).run X.P W = .ok (.enter g (F ++ [Value.func (.yield w.heap.size) #[] #[]] ++ G).toArray) W := fun W => by
        show (callFunc g (F.toArray ++ #[Value.func (.yield w.heap.size) #[] #[]] ++ G.toArray)).run X.P W = _
        rw [run_callFunc f1 f2 f3]
        simp
      exact Sm.head (stepR_rangeFunc hent (run_resolve e2 _ _) (hinv _)) S
    | none =>
      have hb : b.roundOf = none := hb
      obtain ⟨hn, h1, q, hh⟩ := new_true' (show h.new (.dfd (some [])) (fun d h => stRfE E g first cap (sPas ps.toList) (cc X.P X.ms ty ts n as) (cc X.P X.ms ty ts n bd) l ⟨fn, n, ⟨0, [], some d⟩ :: dfs, kd, none⟩ frs ls t d h r) = true from q)
      have hnone := (H.get_none_of R (b := paOf h.next) (by rw [num_paOf hn]; exact Nat.le_refl _)).2.2
      obtain ⟨R1, he⟩ := R.add (w' := { w with heap := w.heap.push (.deferred (some [])) }) (x := .dfd (some [])) (o := .deferred (some [])) (off := 0) (cap := 0) hn hh ⟨rfl, rfl, rfl, rfl⟩ ⟨[], rfl, trivial⟩
      have hself : (μ.set (paOf h.next) ⟨w.heap.size, 0, 0⟩) (paOf h.next) = some ⟨w.heap.size, 0, 0⟩ := Mu.set_same _ _ _
      have A1 : ARel X (μ.set (paOf h.next) ⟨w.heap.size, 0, 0⟩) ⟨fn, n, ⟨0, [], some (paOf h.next)⟩ :: dfs, kd, none⟩ t (fun _ => False) b { a with defers := { target := .collected w.heap.size, args := #[] } :: a.defers } := by
        have := A.mono he.1
        exact ⟨this.fn, this.tmp, ⟨⟨_, hself, rfl, rfl⟩, this.dfs⟩, this.kd, this.rnd⟩
      obtain ⟨fn', f1, f2, ⟨c', f3⟩, S⟩ := rf_core Pg (x := ⟨fn, n, ⟨0, [], some (paOf h.next)⟩ :: dfs, kd, none⟩) ht R1 (Nat.le_trans hlo he.2.2) A1 (C.mono he.1 (fun q hq => he.2.1 q (Nat.lt_of_lt_of_le hq hlo)) (Nat.le_refl _)) hself (Cx.Rvs.mono hF he.1) (Cx.Rvs.mono hG he.1) hps (tmps0 := a.tmps) rfl q
      have hent : (Instr.enterLoop b.fn a.tmps ps as bd b.roundOf).run X.P w = .ok ((w.heap.push (.deferred (some []))).size, [{ target := .collected w.heap.size, args := #[] }]) { w with heap := (w.heap.push (.deferred (some []))).push (.loop { state := .ready, pending := none, fn := b.fn, tmps := a.tmps, params := ps, assign := as, body := bd, defers := w.heap.size }) } := by
        unfold Instr.enterLoop
        rw [hb]
        rfl
      have hinv : ∀ W : World, (invoke (.fn (.func g) G.toArray) (F.toArray ++ #[Value.func (.yield (w.heap.push (.deferred (some []))).size) #[] #[]])).run X.P W = .ok (.enter g (F ++ [Value.func (.yield (w.heap.push (.deferred (some []))).size) #[] #[]] ++ G).toArray) W := fun W => by
        show (callFunc g (F.toArray ++ #[Value.func (.yield (w.heap.push (.deferred (some []))).size) #[] #[]] ++ G.toArray)).run X.P W = _
        rw [run_callFunc f1 f2 f3]
        simp
      exact Sm.head (stepR_rangeFunc hent (run_resolve e2 _ _) (hinv _)) S
  · cases q
  · cases q

/-! Code -/
theorem sOs_range (n : Nat) (ops : Array Oper) : sOs (ops.toList.map (D.oOf ty X.ms ts X.P.globals.size n ops)) = (List.range ops.size).map (om X.P X.ms ty ts n ops) := by
  have h1 : ∀ l : List D.O, sOs l = l.map sO := fun l => by
    induction l with
    | nil => rfl
    | cons x l ih => show sO x :: sOs l = _; rw [ih]; rfl
  rw [h1, List.map_map]
  apply List.ext_getElem?
  intro i
  rw [List.getElem?_map, List.getElem?_map, Array.getElem?_toList]
  by_cases c : i < ops.size
  · rw [List.getElem?_range c, Option.map_some, om_get (Array.getElem?_eq_getElem c), Array.getElem?_eq_getElem c]
    rfl
  · rw [Array.getElem?_eq_none (by omega), List.getElem?_eq_none (by simpa using c)]
    rfl
theorem stepR_scope {P : Program} {c : Code} : Go.step P (lone (b.atR a (.code (.scope c) :: m)) cs w) = .next (lone (b.atR a (.code c :: .inScope c :: m)) cs w) :=
  step_lone_go (by simp [stepG, stepG.exec, Frame.atR])
theorem stepR_inScope {P : Program} {c : Code} : Go.step P (lone (b.atR a (.inScope c :: m)) cs w) = .next (lone (b.atR a m) cs w) :=
  step_lone_go (by simp [stepG, stepG.exec, Frame.atR])
theorem exit_ok (Pg : Prg X ty ts E) (ht : TR X ty ts k.x.n l m) (R : HRel X μ h k.ls w0 w) (hlo : lo ≤ h.next) (A : ARel X μ k.x t (fun _ => False) b a) (C : CsRel X ty ts cs0 μ lo k.cs cs) {id : Nat} (q : stExit id l k t h r = true) : Sm X ty ts cs0 w0 r (lone (b.atR a (.code (.exit id) :: m)) cs w) := by
  unfold stExit at q
  rcases exitTo_tr id ht with ⟨l', m', e1, e2, ht'⟩ | ⟨e1, e2⟩
  · rw [e1] at q
    exact Sm.head (stepR_exit e2) (Sm.run q R hlo A (.plain ht') C)
  · rw [e1] at q
    exact leave_ok (jump := some (.exit id)) (jump' := some (.exit id)) Pg R hlo A C rfl (fun _ c => by cases c) (fun l v w' c cs' h1 h2 h3 => stepR_round_exit h1 h2 e2 h3) q
theorem goto_ok (Pg : Prg X ty ts E) (ht : TR X ty ts k.x.n l m) (R : HRel X μ h k.ls w0 w) (hlo : lo ≤ h.next) (A : ARel X μ k.x t (fun _ => False) b a) (C : CsRel X ty ts cs0 μ lo k.cs cs) {lb : Nat} (q : stGoto lb l k t h r = true) : Sm X ty ts cs0 w0 r (lone (b.atR a (.code (.goto lb) :: m)) cs w) := by
  unfold stGoto at q
  rcases gotoIn_tr lb ht with ⟨l', m', e1, e2, ht'⟩ | ⟨e1, e2⟩
  · rw [e1] at q
    exact Sm.head (stepR_goto e2) (Sm.run q R hlo A (.plain ht') C)
  · rw [e1] at q
    exact leave_ok (jump := some (.goto lb)) (jump' := some (.goto lb)) Pg R hlo A C rfl (fun _ c => by cases c) (fun l v w' c cs' h1 h2 h3 => stepR_round_goto h1 h2 e2 h3) q
theorem code_ok (Pg : Prg X ty ts E) (Ex : ExtOk X ty ts E) : ∀ (c : Code) {l : List I} {m : List Item}, TR X ty ts k.x.n l m → HRel X μ h k.ls w0 w → lo ≤ h.next → ARel X μ k.x t (fun _ => False) b a → CsRel X ty ts cs0 μ lo k.cs cs →
    stCode E (cc X.P X.ms ty ts k.x.n c) l k t h r = true → Sm X ty ts cs0 w0 r (lone (b.atR a (.code c :: m)) cs w)
  | .skip, l, m, ht, R, hlo, A, C, q => Sm.head stepR_skip (Sm.run q R hlo A (.plain ht) C)
  | .label _, l, m, ht, R, hlo, A, C, q => Sm.head stepR_label (Sm.run q R hlo A (.plain ht) C)
  | .region id ops false, l, m, ht, R, hlo, A, C, q => by
    refine Sm.head stepR_region (seq_ok Pg Ex ht (List.range ops.size) t h a μ w (fun j hj => List.mem_range.1 hj) R hlo A C ?_)
    rw [← sOs_range]
    exact q
  | .region id ops true, l, m, ht, R, hlo, A, C, q => by
    have q : stCode E (sC (match D.planOf ty X.ms ts X.P.globals.size k.x.n ops with | some ps => .regD ps | none => .bad)) l k t h r = true := q
    cases hp : D.planOf ty X.ms ts X.P.globals.size k.x.n ops with
    | none => rw [hp] at q; cases q
    | some ps =>
      rw [hp] at q
      have q : batch (rdK k l r) (sPSs ps) t h = true := q
      have hs := stepR_region_draw (P := X.P) (b := b) (a := a) (k := m) (cs := cs) (w := w) (ops := ops) (id := id)
      have hsch : Region.schedule (X.P.follows .mixedOrders) ops (w.tape w.drawn (.order b.fn id)) = Region.linearise .any ops (w.tape w.drawn (.order b.fn id)) := by
        simp only [Region.schedule, Pg.mixed, Bool.true_or, if_true]
      rw [hsch] at hs
      have G := reg_begin hp (w.tape w.drawn (.order b.fn id))
      have hno : ∀ i, ¬ isP 0 (Region.linearise .any ops (w.tape w.drawn (.order b.fn id))) i := fun i hi => by have := hi.2; simp at this
      obtain ⟨ps2, done2, t2, h2, b1, b2, b3, b4, b5, b6, b7, b8⟩ := batch_ok ps _ _ h R hlo G ⟨fun i f d b hi => (hno i hi).elim, fun i j f g d d' b hi => (hno i hi).elim⟩ (fun i hi => (hno i hi).elim) ((A.weak (pend' := pendOf ops 0 (Region.linearise .any ops (w.tape w.drawn (.order b.fn id)))) fun u c => c.elim)).tmp q
      refine Sm.head hs (Sm.run b1 (b3.drew ⟨rfl, rfl, rfl, rfl⟩) (Nat.le_trans hlo b4) ⟨A.fn, b8, A.dfs, A.kd, A.rnd⟩ (.rd ht b5 b6 b7 b2) C)
  | .seq x y, l, m, ht, R, hlo, A, C, q => Sm.head stepR_seq (code_ok Pg Ex x (.code y ht) R hlo A C q)
  | .cond c x y, l, m, ht, R, hlo, A, C, q => by
    have q : stCode E (sC (match D.xOf X.P.globals.size c with | some c => .cond c (D.cOf ty X.ms ts X.P.globals.size k.x.n x) (D.cOf ty X.ms ts X.P.globals.size k.x.n y) | none => .bad)) l k t h r = true := q
    cases hc : D.xOf X.P.globals.size c with
    | none => rw [hc] at q; cases q
    | some c' =>
      rw [hc] at q
      have q : asB (sX c' t) (fun z => bc z (stCode E (cc X.P X.ms ty ts k.x.n x) l k t h r) (stCode E (cc X.P X.ms ty ts k.x.n y) l k t h r)) = true := q
      obtain ⟨z, e1, q⟩ := asB_true q
      have hv := xOf_ok R (evOk a) (A.ev (y := c) fun _ _ c => c) hc
      rw [e1] at hv
      have hv := rv_b hv
      cases z with
      | true => exact Sm.head (stepR_cond hv) (code_ok Pg Ex x ht R hlo A C q)
      | false => exact Sm.head (stepR_cond hv) (code_ok Pg Ex y ht R hlo A C q)
  | .block id c, l, m, ht, R, hlo, A, C, q => Sm.head stepR_block (code_ok Pg Ex c (.blk id ht) R hlo A C q)
  | .loop c, l, m, ht, R, hlo, A, C, q => Sm.head stepR_loop (code_ok Pg Ex c (.loop c ht) R hlo A C q)
  | .scope c, l, m, ht, R, hlo, A, C, q => Sm.head stepR_scope (code_ok Pg Ex c (.scope c ht) R hlo A C q)
  | .rangeFunc f ps x y, l, m, ht, R, hlo, A, C, q => by
    have q : stCode E (sC (match D.xOf X.P.globals.size f with | some f => if ps.any (k.x.n ≤ ·) then .bad else .rf f ps.toList (D.cOf ty X.ms ts X.P.globals.size k.x.n x) (D.cOf ty X.ms ts X.P.globals.size k.x.n y) | none => .bad)) l k t h r = true := q
    cases hf : D.xOf X.P.globals.size f with
    | none => rw [hf] at q; cases q
    | some f' =>
      rw [hf] at q
      simp only at q
      split at q
      · cases q
      · rename_i hps
        refine rf_ok Pg ht R hlo A C hf (fun p hp => ?_) q
        rw [Array.any_eq_true'] at hps
        exact Nat.lt_of_not_le fun c => hps ⟨p, hp, by simpa using c⟩
  | .exit id, l, m, ht, R, hlo, A, C, q => exit_ok Pg ht R hlo A C q
  | .goto lb, l, m, ht, R, hlo, A, C, q => goto_ok Pg ht R hlo A C q
  | .ret, l, m, ht, R, hlo, A, C, q => leave_ok (jump := some .ret) (jump' := some .ret) Pg R hlo A C trivial (fun h1 _ => stepR_ret h1) (fun l v w' c cs' h1 h2 h3 => stepR_round_ret h1 h2 h3) q
  | .refuse _, l, m, ht, R, hlo, A, C, q => by cases q
end
end PH.R
/-
  The reckoner: frames that return; a step.
-/
namespace PH.R
open Go Go.RowKit
section
variable {X : Cx} {ty : Nat → Option D.Ty} {ts : List (Nat × TE)} {E : Env} {cs0 : List Frame} {w0 : World}
variable {k : K} {t : TV} {l : List I} {h : H} {r : Cf → Bool} {b : Frame} {a : Act} {m : List Item} {items : List Item} {cs : List Frame} {μ : Mu} {lo : Nat} {w : World} {ls : T (Option Lp)}

theorem run_mapL {P : Program} {α : Type} {f : α → Sem Value} : ∀ (l : List α) (vs : List Value), (∀ (i : Nat) x, l[i]? = some x → ∃ v, vs[i]? = some v ∧ (f x).run P w = .ok v w) → vs.length = l.length → (l.mapM f).run P w = .ok vs w
  | [], vs, _, hl => by
    have : vs = [] := List.length_eq_zero_iff.1 hl
    subst this; rfl
  | x :: l, [], _, hl => by simp at hl
  | x :: l, v :: vs, h, hl => by
    obtain ⟨u, h1, h2⟩ := h 0 x rfl
    have : v = u := by simpa using h1
    subst this
    have ih := run_mapL l vs (fun i y hi => by simpa using h (i + 1) y (by simpa using hi)) (by simpa using hl)
    rw [List.mapM_cons, Sem.run_bind, h2, Result.andThen_ok, Sem.run_bind, ih, Result.andThen_ok]
    rfl
theorem run_mapA {P : Program} {α : Type} {f : α → Sem Value} (arr : Array α) (vs : List Value) (h : ∀ (i : Nat) x, arr.toList[i]? = some x → ∃ v, vs[i]? = some v ∧ (f x).run P w = .ok v w) (hl : vs.length = arr.toList.length) : (arr.mapM f).run P w = .ok vs.toArray w := by
  rw [Array.mapM_eq_mapM_toList]
  show Sem.run P (List.toArray <$> arr.toList.mapM f) w = _
  rw [← bind_pure_comp, Sem.run_bind, run_mapL arr.toList vs h hl]
  rfl
/-- What a result is read from. -/
def resVar (tmps : Array Value) : ResultVar → Sem Value
  | .tmp t => pure (tmps.getD t undef)
  | .cell a t => do loadVar t (← asAddr (tmps.getD a undef))
theorem resV_ok (tt : TyOk X.P ty) (R : HRel X μ h ls w0 w) {n : Nat} {tmps : Array Value} (A : TmpRel X.ms μ n t tmps (fun _ => False)) : ∀ (l : List ResultVar) (res : List D.RV) {kk : List V → Bool}, D.resOf ty l = some res → resV t h (sRVs res) kk = true →
    ∃ (vs : List V) (L : List Value), kk vs = true ∧ X.Rvs μ vs L ∧ L.length = l.length ∧ ∀ (i : Nat) x, l[i]? = some x → ∃ v, L[i]? = some v ∧ (resVar tmps x).run X.P w = .ok v w
  | [], res, kk, hr, q => by
    cases hr
    exact ⟨[], [], q, rfl, rfl, fun i x hi => by simp at hi⟩
  | .tmp u :: l, res, kk, hr, q => by
    simp only [D.resOf] at hr
    split at hr
    · rename_i hu
      have hu : u < big := by simpa [Nat.blt_eq] using hu
      split at hr
      · rename_i r' hr'
        cases hr
        obtain ⟨vs, L, q1, q2, q3, q4⟩ := resV_ok tt R A l r' hr' (show resV t h (sRVs r') (fun r => kk (T.get undV (paOf u) t :: r)) = true from q)
        refine ⟨_, tmps.getD u undef :: L, q1, (concs_cons X.ms).2 ⟨_, L, A.2.2 u hu (fun c => c), q2, rfl⟩, by simp [q3], fun i x hi => ?_⟩
        cases i with
        | zero => cases hi; exact ⟨_, rfl, rfl⟩
        | succ i => exact q4 i x (by simpa using hi)
      · cases hr
    · cases hr
  | .cell u ct :: l, res, kk, hr, q => by
    simp only [D.resOf] at hr
    split at hr
    · rename_i hu
      have hu : u < big := by simpa [Nat.blt_eq] using hu
      split at hr
      · rename_i ti r' hti hr'
        cases hr
        obtain ⟨inf, d, F⟩ := tt.facts hti
        obtain ⟨bb, o, e1, q⟩ := asP_true (show asP (T.get undV (paOf u) t) (fun b o => resV t h (sRVs r') fun r => Option.casesOn (motive := fun _ => Bool) ti.agg (load1 h b o fun v => kk (v :: r)) fun n => loadN h b o n fun v => kk (.ag v :: r)) = true from q)
        have hp := A.2.2 u hu (fun c => c)
        rw [e1] at hp
        obtain ⟨en, he, e2⟩ := rv_p (X := X) hp
        obtain ⟨vs, L, q1, q2, q3, q4⟩ := resV_ok tt R A l r' hr' q
        have hone : ∃ v z, kk (v :: vs) = true ∧ X.Rv μ v z ∧ (loadVar ct ⟨en.blk, en.off + o, none⟩).run X.P w = .ok z w := by
          cases hn : ti.agg with
          | none =>
            rw [hn] at q1
            obtain ⟨v, z, a1, a2, a3⟩ := load1_ok R he q1
            exact ⟨v, z, a1, a2, run_loadVar1 F hn a3⟩
          | some n =>
            rw [hn] at q1
            obtain ⟨l', xs, a1, a2, a3, a4⟩ := loadN_ok R he q1
            exact ⟨_, _, a1, rv_ag_mk a2, run_loadVarN F hn a4⟩
        obtain ⟨v, z, a1, a2, a3⟩ := hone
        refine ⟨_, z :: L, a1, (concs_cons X.ms).2 ⟨z, L, a2, q2, rfl⟩, by simp [q3], fun i x hi => ?_⟩
        cases i with
        | zero =>
          cases hi
          refine ⟨z, rfl, ?_⟩
          show Sem.run X.P (do loadVar ct (← asAddr (tmps.getD u undef))) w = _
          rw [e2, Sem.run_bind]
          exact a3
        | succ i => exact q4 i x (by simpa using hi)
      · cases hr
    · cases hr
theorem results_ok (tt : TyOk X.P ty) (R : HRel X μ h ls w0 w) {n : Nat} {tmps : Array Value} (A : TmpRel X.ms μ n t tmps (fun _ => False)) {fn : Func} {res : List D.RV} (hr : D.resOf ty fn.results.toList = some res) {kk : List V → Bool} (q : resV t h (sRVs res) kk = true) :
    ∃ vs z, kk vs = true ∧ X.Rv μ (packV vs) z ∧ (results fn tmps).run X.P w = .ok z w := by
  obtain ⟨vs, L, q1, q2, q3, q4⟩ := resV_ok tt R A fn.results.toList res hr q
  refine ⟨vs, if h : L.toArray.size = 1 then L.toArray[0] else .tuple L.toArray, q1, ?_, ?_⟩
  · have hlen := rvs_length q2
    cases vs with
    | nil =>
      cases q2
      exact rfl
    | cons v vs =>
      obtain ⟨z, L', h1, h2, rfl⟩ := (concs_cons X.ms).1 q2
      cases vs with
      | nil => cases h2; exact h1
      | cons u vs =>
        obtain ⟨z', L'', h3, h4, rfl⟩ := (concs_cons X.ms).1 h2
        rw [dif_neg (by simp)]
        exact rv_tu_mk q2
  · have := run_mapA (f := resVar tmps) (P := X.P) (w := w) fn.results L q4 q3
    show Sem.run X.P (do
      let vs ← fn.results.mapM (resVar tmps)
      pure (if h : vs.size = 1 then vs[0] else Value.tuple vs)) w = _
    rw [Sem.run_bind, this, Result.andThen_ok]
    rfl
end
end PH.R
/-
  The reckoner: a step; all of them.
-/
namespace PH.R
open Go Go.RowKit
section
variable {X : Cx} {ty : Nat → Option D.Ty} {ts : List (Nat × TE)} {E : Env} {cs0 : List Frame} {w0 : World}
variable {k : K} {t : TV} {l : List I} {h : H} {r : Cf → Bool} {b : Frame} {a : Act} {m : List Item} {items : List Item} {cs : List Frame} {μ : Mu} {lo : Nat} {w : World} {ls : T (Option Lp)}
theorem stp_collected {P : Program} {fr : Frame} {blk : Nat} {args : Array Value} {ds calls : List Deferred} {w' : World} (hm : fr.mode = .returning) (hd : fr.defers = { target := .collected blk, args } :: ds) (hr : (Instr.takeDeferred blk).run P w = .ok calls w') :
    Go.step P (lone fr cs w) = .next (lone { fr with defers := calls ++ ds } cs w') :=
  step_lone_go (by simp [stepG, Go.unwind, hm, hd, Sem.runT_eq, hr, GStep.bare_after])
theorem dfs_append : ∀ {l : List Df} {D : List Deferred} {l' : List Df} {D' : List Deferred}, DfsRel X μ l D → DfsRel X μ l' D' → DfsRel X μ (l ++ l') (D ++ D')
  | [], [], _, _, _, h => h
  | _ :: _, _ :: _, _, _, ⟨a, b⟩, h => ⟨a, dfs_append b h⟩
  | [], _ :: _, _, _, h, _ => False.elim h
  | _ :: _, [], _, _, h, _ => False.elim h
/-- A frame is being left. -/
theorem unwind_ok (Pg : Prg X ty ts E) (R : HRel X μ h k.ls w0 w) (hlo : lo ≤ h.next) (A : ARel X μ k.x t (fun _ => False) b a) (C : CsRel X ty ts cs0 μ lo k.cs cs) (q : unwind E k t h r = true) :
    Sm X ty ts cs0 w0 r (lone { b.atR a items with mode := .returning } cs w) := by
  obtain ⟨⟨fn, n, dfs, kd, rnd⟩, frs, ls⟩ := k
  cases dfs with
  | cons d ds =>
    have hdf := A.dfs
    obtain ⟨tmps, Ds⟩ := a
    cases Ds with
    | nil => exact False.elim hdf
    | cons D Ds =>
      obtain ⟨hD, hDs⟩ := hdf
      obtain ⟨f, args, mark⟩ := d
      cases mark with
      | some p =>
        obtain ⟨e, he, hT, hA⟩ := hD
        have q : (match h.get p with
          | some (.dfd (some l)) => r (.ret ⟨⟨fn, n, l ++ ds, kd, rnd⟩, frs, ls⟩ t (h.put p (.dfd none)))
          | _ => false) = true := q
        split at q
        · rename_i l hl
          obtain ⟨o, ho1, ho2⟩ := R.obj p _ e hl he
          obtain ⟨Ls, rfl, hLs⟩ := ho2
          have hnew : w0.heap.size ≤ e.blk := by
            rcases R.fresh p e (.inl (by rw [hl]; simp)) he with hf | ⟨_, _, _, hf, _⟩
            · exact hf
            · rw [hl] at hf; cases hf
          have R' := R.turn (x' := .dfd none) (o' := .deferred none) (w' := { w with heap := w.heap.setIfInBounds e.blk (.deferred none) }) hl he (.inl hnew) rfl rfl fun hlt => absurd hlt (by omega)
          have hrun : (Instr.takeDeferred e.blk).run X.P w = .ok Ls { w with heap := w.heap.setIfInBounds e.blk (.deferred none) } := by
            unfold Instr.takeDeferred
            simp only [Sem.run_bind, run_getObj ho1 (by simp), Result.andThen_ok, run_setObj ho1 (by simp), Sem.run_pure]
          obtain ⟨tg, ag⟩ := D
          have hT : tg = .collected e.blk := hT
          subst hT
          have hs := stp_collected (P := X.P) (cs := cs) (fr := { b.atR ⟨tmps, { target := .collected e.blk, args := ag } :: Ds⟩ items with mode := .returning }) rfl rfl hrun
          exact Sm.head hs ⟨.ret ⟨⟨fn, n, l ++ ds, kd, rnd⟩, frs, ls⟩ t (h.put p (.dfd none)), _, .refl _ _, ⟨μ, lo, _, b, ⟨tmps, Ls ++ Ds⟩, items, cs, rfl, R', hlo, ⟨A.fn, A.tmp, dfs_append hLs hDs, A.kd, A.rnd⟩, C⟩, q⟩
        · cases q
      | none =>
        obtain ⟨c, hT, hA⟩ := hD
        have q : ok (Nat.blt f big) (ob (T.get none (paOf f) E) fun x => match x with
          | .code n' _ c => ok (Nat.ble (lenL args 0) n' && Nat.blt n' big) (r (.run ⟨⟨f, n', [], .deferred, none⟩, ⟨⟨fn, n, ds, kd, rnd⟩, t, [], false⟩ :: frs, ls⟩ (argsT args 0 .lf) [.code c] h))
          | _ => false) = true := q
        obtain ⟨hf, q⟩ := ok_true.1 q
        have hf : f < big := by simpa [Nat.blt_eq] using hf
        obtain ⟨x, hE, q⟩ := ob_true.1 q
        cases x with
        | ext e => cases q
        | code n' res c' =>
          obtain ⟨fn', cd, res', h1, h2, h3, h4, h5, _⟩ := fn_code Pg hf hE
          obtain ⟨c1, q⟩ := ok_true.1 q
          obtain ⟨c1, c2⟩ := (Bool.and_eq_true ..).mp c1
          have c1 : lenL args 0 ≤ n' := by simpa using c1
          have c2 : n' < big := by simpa [Nat.blt_eq] using c2
          have hinv : (invoke D.target D.args).run X.P w = .ok (.enter f (D.args ++ c).toList.toArray) w := by
            rw [hT]
            show (callFunc f (D.args ++ c)).run X.P w = _
            rw [run_callFunc h1 h2 h3]
          have hs := step_defer (P := X.P) (cs := cs) (w := w) (fr := { b.atR ⟨tmps, D :: Ds⟩ items with mode := .returning }) (d := D) (ds := Ds) (by simp) rfl hT hinv
          have A' : ARel X μ ⟨fn, n, ds, kd, rnd⟩ t (fun _ => False) b ⟨tmps, Ds⟩ := ⟨A.fn, A.tmp, hDs, A.kd, A.rnd⟩
          have F : FrRel X ty ts μ lo h.next ⟨⟨fn, n, ds, kd, rnd⟩, t, [], false⟩ { b.atR ⟨tmps, Ds⟩ items with mode := .returning } :=
            ⟨b, ⟨tmps, Ds⟩, items, _, A', (fun e => by cases e), fun _ => ⟨rfl, rfl⟩⟩
          exact Sm.head hs (enter_ok R F hlo C hA h1 h3 h4 h5 c1 c2 rfl q)
  | nil =>
    have hdf := A.dfs
    obtain ⟨tmps, Ds⟩ := a
    cases Ds with
    | cons _ _ => exact False.elim hdf
    | nil =>
      cases frs with
      | nil => cases q
      | cons c frs =>
        have q : ok (Nat.blt fn big) (ob (T.get none (paOf fn) E) fun x => match x with
          | .code _ res _ => resV t h res (uwR kd c frs ls h r)
          | _ => false) = true := q
        obtain ⟨hf, q⟩ := ok_true.1 q
        have hf : fn < big := by simpa [Nat.blt_eq] using hf
        obtain ⟨x, hE, q⟩ := ob_true.1 q
        cases x with
        | ext e => cases q
        | code n' res c' =>
          obtain ⟨fn', cd, res', h1, h2, h3, h4, h5, h6, rfl⟩ := fn_code Pg hf hE
          obtain ⟨vs, z, q, hz, hrun⟩ := results_ok Pg.tt R A.tmp h6 q
          have hfn : b.fn = fn := A.fn
          cases cs with
          | nil => exact False.elim C
          | cons cf cs' =>
            cases kd with
            | normal =>
              have hlv : ({ b.atR ⟨tmps, []⟩ items with mode := .returning } : Frame).leaving X.P w (.returned z) := ⟨rfl, rfl, A.kd, fn', by show X.P.funcs[b.fn]? = _; rw [hfn]; exact h1, hrun⟩
              obtain ⟨c2, cs2, e, S⟩ := back_ok R hlo C hz q
              cases e
              exact Sm.head (step_leave_returned hlv) S
            | deferred =>
              obtain ⟨x, t', td, run⟩ := c
              have q : bc run false (r (.ret ⟨x, frs, ls⟩ t' h)) = true := q
              cases run with
              | true => cases q
              | false =>
                obtain ⟨lo', g1, ⟨b', a', todo', pend', A', _, g3⟩, C'⟩ := C
                obtain ⟨rfl, rfl⟩ := g3 rfl
                have hgo : ({ b.atR ⟨tmps, []⟩ items with mode := .returning } : Frame).going X.P w (.returned z) := ⟨rfl, rfl, fn', by show X.P.funcs[b.fn]? = _; rw [hfn]; exact h1, hrun⟩
                refine Sm.head (step_going_returned A.kd hgo) ⟨.ret ⟨x, frs, ls⟩ t' h, _, .refl _ _, ⟨μ, lo', w, b', a', todo', cs', rfl, R, Nat.le_trans g1 hlo, A', C'⟩, q⟩
/-- A step. -/
theorem step_ok (Pg : Prg X ty ts E) (Ex : ExtOk X ty ts E) {c : Cf} {M : Machine} (hc : RcM X ty ts cs0 w0 c M) (q : PH.R.step E c r = true) : Sm X ty ts cs0 w0 r M := by
  cases c with
  | ret k t h =>
    obtain ⟨μ, lo, w, b, a, items, cs, rfl, R, hlo, A, C⟩ := hc
    exact unwind_ok Pg R hlo A C q
  | run k t todo h =>
    obtain ⟨μ, lo, w, b, a, items, pend, cs, rfl, R, hlo, A, W, C⟩ := hc
    have q : stTodo E todo k t h r = true := q
    cases W with
    | plain ht =>
      cases ht with
      | nil => exact leave_ok (jump := none) (jump' := none) Pg R hlo A C trivial (fun h1 _ => stepR_end h1) (fun l v w' c cs' h1 h2 h3 => stepR_round_end h1 h2 h3) q
      | code c ht => exact code_ok Pg Ex c ht R hlo A C q
      | blk id ht => exact Sm.head stepR_inBlock (Sm.run q R hlo A (.plain ht) C)
      | loop c ht => exact Sm.head stepR_inLoop (code_ok Pg Ex c (.loop c ht) R hlo A C q)
      | scope c ht => exact Sm.head stepR_inScope (Sm.run q R hlo A (.plain ht) C)
      | br ht => exact br_ok Pg ht R hlo A C q
    | seq ht hlt => exact seq_ok Pg Ex ht _ t h a μ w hlt R hlo A C q
    | rd ht G Pn Rs hps => exact rd_ok Pg Ex ht R hlo G Pn Rs hps A C q
    | erf ht he => exact erf_ok Pg ht R hlo A C he q
theorem steps_ok (Pg : Prg X ty ts E) (Ex : ExtOk X ty ts E) : ∀ (n : Nat) {c : Cf} {M : Machine} {r : Cf → Bool}, RcM X ty ts cs0 w0 c M → steps E n c r = true → Sm X ty ts cs0 w0 r M
  | 0, c, M, r, hc, q => ⟨c, M, .refl _ _, hc, q⟩
  | n + 1, c, M, r, hc, q => by
    obtain ⟨c', M', h1, h2, q⟩ := step_ok Pg Ex hc (show PH.R.step E c (fun c => steps E n c r) = true from q)
    exact Sm.of h1 (steps_ok Pg Ex n h2 q)
/-- What comes of it all. -/
theorem final_ok (Pg : Prg X ty ts E) {f : Nat} {c : Cf} {M : Machine} {rv : V → Bool} (hc : RcM X ty ts cs0 w0 c M) (q : final E f c rv = true) : ∃ fr w v z μ, M = lone fr cs0 w ∧ fr.fn = f ∧ fr.leaving X.P w (.returned z) ∧ rv v = true ∧ X.Rv μ v z ∧ Below w0.heap.size w0 w := by
  cases c with
  | run => cases q
  | ret k t h =>
    obtain ⟨μ, lo, w, b, a, items, cs, rfl, R, hlo, A, C⟩ := hc
    obtain ⟨⟨fn, n, dfs, kd, rnd⟩, frs, ls⟩ := k
    cases dfs with
    | cons _ _ => cases q
    | nil =>
      cases kd with
      | deferred => cases frs <;> cases q
      | normal =>
        cases frs with
        | cons _ _ => cases q
        | nil =>
          have q : ok (Nat.beq fn f && Nat.blt fn big) (ob (T.get none (paOf fn) E) fun x => match x with
            | .code _ res _ => resV t h res fun l => rv (packV l)
            | _ => false) = true := q
          obtain ⟨hf, q9⟩ := ok_true.1 q
          obtain ⟨hff, hf⟩ := (Bool.and_eq_true ..).mp hf
          have hff : fn = f := Nat.eq_of_beq_eq_true hff
          subst hff
          have hf : fn < big := by simpa [Nat.blt_eq] using hf
          obtain ⟨x, hE, q⟩ := ob_true.1 q9
          cases x with
          | ext e => cases q
          | code n' res c' =>
            obtain ⟨fn', cd, res', h1, h2, h3, h4, h5, h6, rfl⟩ := fn_code Pg hf hE
            obtain ⟨vs, z, q, hz, hrun⟩ := results_ok Pg.tt R A.tmp h6 q
            have hfn : b.fn = fn := A.fn
            have hC : cs = cs0 := C
            subst hC
            have hdf := A.dfs
            obtain ⟨tmps, Ds⟩ := a
            cases Ds with
            | cons _ _ => exact False.elim hdf
            | nil =>
              exact ⟨_, w, packV vs, z, μ, rfl, hfn, ⟨rfl, rfl, A.kd, fn', by show X.P.funcs[b.fn]? = _; rw [hfn]; exact h1, hrun⟩, q, hz, R.below⟩
end
/-- What the machine reckons of a call, the model does. -/
theorem reckon {P : Program} {ms : String → List (Nat × Nat × Rc)} {ty : Nat → Option D.Ty} {ts : List (Nat × TE)} {E : Env} (Pg : Prg (cx P ms ty ts) ty ts E) (Ex : ExtOk (cx P ms ty ts) ty ts E) {f : Nat} (hf : f < big) {h0 : H} {w : World} {μ : Mu} (R : HRel (cx P ms ty ts) μ h0 .lf w w) {N : Nat}
    (q : (PH.R.start E f h0 fun c => steps E N c fun c => final E f c fun v => asB v fun b => b) = true) : Calls P f #[] w fun | .returned v, w' => v = .bool true ∧ Below w.heap.size w w' | _, _ => False := by
  intro cs
  obtain ⟨x, hE, q⟩ := ob_true.1 q
  cases x with
  | ext e => cases q
  | code n res c =>
    obtain ⟨fn, c', res', h1, h2, h3, h4, h5, _⟩ := fn_code Pg hf hE
    obtain ⟨c2, q⟩ := ok_true.1 q
    have c2 : n < big := by simpa [Nat.blt_eq] using c2
    let b : Frame := { (default : Frame) with fn := f, kind := .normal, roundOf := none }
    let a : Act := { tmps := #[] ++ Array.replicate (n - 0) undef, defers := [] }
    have henter : Frame.enter P f #[] .normal = b.atR a [.code c'] := by
      have h1 : P.funcs[f]? = some fn := h1
      simp [Frame.enter, Frame.atR, h1, h3, h4, b, a]
    have A : ARel (cx P ms ty ts) μ ⟨f, n, [], .normal, none⟩ .lf (fun _ => False) b a := by
      refine ⟨rfl, ?_, trivial, rfl, rfl⟩
      have := args_rel (X := cx P ms ty ts) (μ := μ) (args := []) (L := []) rfl (n := n) (by simp [lenL]) c2
      simpa [argsT, a] using this
    have hc : RcM (cx P ms ty ts) ty ts cs w (.run ⟨⟨f, n, [], .normal, none⟩, [], .lf⟩ .lf [.code c] h0) (lone (b.atR a [.code c']) cs w) := by
      refine ⟨μ, 0, w, b, a, _, fun _ => False, cs, rfl, R, Nat.zero_le _, A, ?_, rfl⟩
      rw [h5]
      exact .plain (.code c' .nil)
    obtain ⟨c3, M, hst, hc3, q⟩ := steps_ok Pg Ex N hc q
    obtain ⟨fr, w', v, z, μ', rfl, hfn, hlv, hv, hz, hb⟩ := final_ok Pg hc3 q
    obtain ⟨x, rfl, hx⟩ := asB_true hv
    subst hx
    have hz := rv_b hz
    subst hz
    refine ⟨.returned (.bool true), w', fr, ⟨rfl, hb⟩, ?_, hfn, hlv⟩
    rw [henter]
    exact hst
end PH.R
/-
  The reckoner: what is told of a program, out of lists.
-/
namespace PH.R
open Go Go.RowKit
noncomputable section
def insT {α : Type} (t : T (Option α)) (e : Nat × α) : T (Option α) := T.set none (some e.2) (paOf e.1) t
def mkT {α : Type} (l : List (Nat × α)) : T (Option α) := l.foldl insT .lf
theorem foldT_get {α : Type} : ∀ (l : List (Nat × α)) (t : T (Option α)) (f : Nat) (x : α), f < big → (∀ e, e ∈ l → e.1 < big) → T.get none (paOf f) (l.foldl insT t) = some x → (f, x) ∈ l ∨ T.get none (paOf f) t = some x
  | [], t, f, x, _, _, h => .inr h
  | e :: l, t, f, x, hf, hl, h => by
    rcases foldT_get l (insT t e) f x hf (fun e he => hl e (by simp [he])) h with h | h
    · exact .inl (by simp [h])
    · unfold insT at h
      rw [T.get_set] at h
      split at h
      · rename_i c
        cases h
        left
        have := paOf_inj hf (hl e (by simp)) c
        subst this
        simp
      · exact .inr h
theorem mkT_get {α : Type} {l : List (Nat × α)} {f : Nat} {x : α} (hf : f < big) (hl : (l.all fun e => Nat.blt e.1 big) = true) (h : T.get none (paOf f) (mkT l) = some x) : (f, x) ∈ l := by
  have hl : ∀ e, e ∈ l → e.1 < big := fun e he => by
    have := List.all_eq_true.1 hl e he
    simpa [Nat.blt_eq] using this
  rcases foldT_get l .lf f x hf hl h with h | h
  · exact h
  · rw [T.get_lf] at h; cases h
theorem map_at {α β : Type} {f g : α → β} {l : List α} (h : l.map f = l.map g) {a : α} (ha : a ∈ l) : f a = g a := List.map_inj_left.1 h a ha
/-- Types, by a tree. -/
def tyIn (tr : T (Option D.Ty)) (t : Nat) : Option D.Ty := bc (Nat.blt t big) (T.get none (paOf t) tr) none
theorem tyIn_ok {P : Program} {tr : T (Option D.Ty)} {l : List (Nat × D.Ty)} (ht : tr = mkT l) (hl : (l.all fun e => Nat.blt e.1 big) = true) (h : l.map (fun e => D.tyOf P e.1) = l.map fun e => some e.2) : TyOk P (tyIn tr) := by
  intro t i hi
  unfold tyIn at hi
  rw [bc_eq] at hi
  split at hi
  · rename_i hb
    rw [ht] at hi
    exact map_at h (mkT_get (by simpa [Nat.blt_eq] using hb) hl hi)
  · cases hi
/-- Methods, by a list. -/
def msIn (l : List (String × List (Nat × Nat × Rc))) (n : String) : List (Nat × Nat × Rc) := (l.lookup n).getD []
def rcOk (P : Program) (ty : Nat → Option D.Ty) (d : TypeDesc) (p : Bool) : Rc → Bool
  | .id => bc p (match d with | .pointer _ => true | _ => false) (match d with | .pointer _ => false | _ => true)
  | .deref n => !p && (match d with
    | .pointer e => (match ty e with
      | some j => j.agg == n
      | none => false)
    | _ => false)
def msOk1 (P : Program) (ty : Nat → Option D.Ty) (n : String) (x : Nat × Nat × Rc) : Bool :=
  match P.info? x.1, P.underlying x.1 with
  | some i, some d => (match i.methods.find? (·.name == n) with
    | some m => m.path.isEmpty && (match m.func with
      | some (f, p) => Nat.beq f x.2.1 && rcOk P ty d p x.2.2
      | none => false)
    | none => false)
  | _, _ => false
theorem findM_mem {t f : Nat} {rc : Rc} : ∀ {l : List (Nat × Nat × Rc)}, findM t l = some (f, rc) → (t, f, rc) ∈ l
  | [], h => by cases h
  | (a, b, c) :: l, h => by
    have h : bc (Nat.beq a t) (some (b, c)) (findM t l) = some (f, rc) := h
    rw [bc_eq] at h
    split at h
    · rename_i e
      cases h
      rw [Nat.eq_of_beq_eq_true e]; simp
    · exact List.mem_cons.2 (.inr (findM_mem h))
theorem lookup_mem {α : Type} {n : String} {x : α} : ∀ {l : List (String × α)}, l.lookup n = some x → (n, x) ∈ l
  | [], h => by cases h
  | (m, y) :: l, h => by
    rw [List.lookup_cons] at h
    split at h
    · rename_i e
      cases h
      rw [eq_of_beq e]; simp
    · exact List.mem_cons.2 (.inr (lookup_mem h))
theorem msIn_ok {P : Program} {ty : Nat → Option D.Ty} {ts : List (Nat × TE)} (tt : TyOk P ty) {l : List (String × List (Nat × Nat × Rc))} (h : (l.all fun e => e.2.all (msOk1 P ty e.1)) = true) : MsOk (cx P (msIn l) ty ts) := by
  intro name t f rc hf
  have hf : findM t (msIn l name) = some (f, rc) := hf
  unfold msIn at hf
  cases hl : l.lookup name with
  | none => rw [hl] at hf; cases hf
  | some tbl =>
    rw [hl] at hf
    have h1 := List.all_eq_true.1 (List.all_eq_true.1 h _ (lookup_mem hl)) _ (findM_mem hf)
    unfold msOk1 at h1
    simp only at h1
    split at h1
    · rename_i i d hi hd
      split at h1
      · rename_i m hm
        obtain ⟨h2, h3⟩ := (Bool.and_eq_true ..).mp h1
        split at h3
        · rename_i g p hg
          obtain ⟨h4, h5⟩ := (Bool.and_eq_true ..).mp h3
          cases Nat.eq_of_beq_eq_true h4
          refine ⟨i, m, p, d, hi, hm, by simpa using h2, hg, hd, ?_⟩
          cases rc with
          | id =>
            unfold rcOk at h5
            rw [bc_eq] at h5
            cases p with
            | true =>
              rw [if_pos rfl] at h5
              left
              refine ⟨rfl, ?_⟩
              cases d <;> first | exact ⟨_, rfl⟩ | cases h5
            | false =>
              rw [if_neg (by simp)] at h5
              right
              refine ⟨rfl, fun e c => ?_⟩
              subst c; cases h5
          | deref n =>
            unfold rcOk at h5
            obtain ⟨h6, h7⟩ := (Bool.and_eq_true ..).mp h5
            refine ⟨by simpa using h6, ?_⟩
            cases d <;> first | (cases h7; done) | skip
            rename_i e
            simp only at h7
            split at h7
            · rename_i j hj
              obtain ⟨inf, d', F⟩ := tt.facts hj
              exact ⟨e, j, inf, d', rfl, F, by simpa using h7⟩
            · cases h7
        · cases h3
      · cases h1
    · cases h1
/-- A function, made ready. -/
def fnAt (P : Program) (ty : Nat → Option D.Ty) (ms : String → List (Nat × Nat × Rc)) (ts : List (Nat × TE)) (f : Nat) : Option Fn := (P.funcs[f]?).bind fun fn => bc (fn.name == "runtime.NumGoroutine") none ((D.fnOf ty ms ts P.globals.size fn).map sFn)
theorem fnAt_some {P : Program} {ty : Nat → Option D.Ty} {ms : String → List (Nat × Nat × Rc)} {ts : List (Nat × TE)} {f : Nat} {x : Fn} (h : fnAt P ty ms ts f = some x) : ∃ fn d, P.funcs[f]? = some fn ∧ (fn.name == "runtime.NumGoroutine") = false ∧ D.fnOf ty ms ts P.globals.size fn = some d ∧ x = sFn d := by
  unfold fnAt at h
  obtain ⟨fn, h1, h⟩ := Option.bind_eq_some_iff.1 h
  rw [bc_eq] at h
  split at h
  · cases h
  · rename_i hn
    obtain ⟨d, h2, rfl⟩ := Option.map_eq_some_iff.1 h
    exact ⟨fn, d, h1, by simpa using hn, h2, rfl⟩
theorem prg_of {P : Program} {ty : Nat → Option D.Ty} {ms : String → List (Nat × Nat × Rc)} {ts : List (Nat × TE)} {E : Env} {l : List (Nat × Fn)} (tt : TyOk P ty) (mm : MsOk (cx P ms ty ts)) (hts : TsOk P ts) (hE : E = mkT l) (hl : (l.all fun e => Nat.blt e.1 big) = true) (h : ∀ e, e ∈ l → fnAt P ty ms ts e.1 = some e.2) (hm : P.follows .mixedOrders = true) : Prg (cx P ms ty ts) ty ts E :=
  ⟨tt, mm, hts, fun f x hf hx => by
    rw [hE] at hx
    exact fnAt_some (h _ (mkT_get hf hl hx)), hm, fun _ _ _ => Iff.rfl⟩
theorem all_of_parts {α : Type} {Q : α → Prop} {l l' : List α} (h : ∀ e, e ∈ l → Q e) (h' : ∀ e, e ∈ l' → Q e) : ∀ e, e ∈ l ++ l' → Q e := fun e he => (List.mem_append.1 he).elim (h e) (h' e)
theorem fns_part {P : Program} {ty : Nat → Option D.Ty} {ms : String → List (Nat × Nat × Rc)} {ts : List (Nat × TE)} {l : List (Nat × Fn)} (h : l.map (fun e => fnAt P ty ms ts e.1) = l.map fun e => some e.2) : ∀ e, e ∈ l → fnAt P ty ms ts e.1 = some e.2 := fun _ he => map_at h he
/-- Functions without a body, by a list of their own. -/
def isExt : Fn → Bool
  | .ext _ => true
  | .code .. => false
theorem ext_of {P : Program} {ty : Nat → Option D.Ty} {ms : String → List (Nat × Nat × Rc)} {ts : List (Nat × TE)} {E : Env} {l lc le : List (Nat × Fn)} (hE : E = mkT l) (hl : (l.all fun e => Nat.blt e.1 big) = true) (hc : ∀ e, e ∈ l → e ∈ lc ∨ e ∈ le) (hlc : (lc.all fun e => !isExt e.2) = true)
    (h : ∀ e, e ∈ le → ∀ x, e.2 = .ext x → ∃ fn s, P.funcs[e.1]? = some fn ∧ (fn.name == "runtime.NumGoroutine") = false ∧ fn.body = none ∧ Extern.findNext fn = none ∧ Extern.find fn = some s ∧ extSem P x fn.resultTypes s) : ExtOk (cx P ms ty ts) ty ts E := by
  intro f e hf hx
  rw [hE] at hx
  rcases hc _ (mkT_get hf hl hx) with c | c
  · have := List.all_eq_true.1 hlc _ c
    cases this
  · exact h _ c e rfl
/-- A world, where no variable is looked at. -/
def mu0 (n : Nat) : Mu := fun b => if b.num < n then some ⟨b.num, 0, 0⟩ else none
theorem hrel0 {P : Program} {ms : String → List (Nat × Nat × Rc)} {ty : Nat → Option D.Ty} {ts : List (Nat × TE)} (w : World) (n : Nat) (hn : P.globals.size = n) (hb : n ≤ big) : HRel (cx P ms ty ts) (mu0 n) ⟨.lf, n⟩ .lf w w := by
  have hno : ∀ b, ¬ Live ⟨.lf, n⟩ .lf b := fun b h => by
    rcases h with h | h
    · exact h (T.get_lf b)
    · exact h (T.get_lf b)
  refine ⟨fun b x e h => ?_, fun b L e h => ?_, fun b _ => T.get_lf b, fun b b' e e' h => (hno b h).elim, fun b e h => (hno b h).elim, fun b e h => ?_, fun b h => (hno b h).elim, hb, fun g hg => ?_, Below.refl _ _⟩
  · rw [show H.get ⟨.lf, n⟩ b = none from T.get_lf b] at h; cases h
  · rw [T.get_lf] at h; cases h
  · unfold mu0 at h
    split at h
    · assumption
    · cases h
  · have hg : g < n := by rw [← hn]; exact hg
    unfold mu0
    rw [num_paOf (by omega), if_pos hg]
end
end PH.R
/-
  The reckoner: a world in which some variables are looked at, that hold what is listed.
-/
namespace PH.R
open Go Go.RowKit
noncomputable section
theorem layT_get : ∀ (l : List (Nat × List V × Nat)) (t : T (Option B)) (b : Pa) (x : B), T.get none b (l.foldl (fun t e => T.set none (some (layB e.2)) (paOf e.1) t) t) = some x → (∃ e, e ∈ l ∧ b = paOf e.1 ∧ x = layB e.2) ∨ T.get none b t = some x
  | [], t, b, x, h => .inr h
  | e :: l, t, b, x, h => by
    rcases layT_get l _ b x h with ⟨e', he, h1, h2⟩ | h
    · exact .inl ⟨e', by simp [he], h1, h2⟩
    · rw [T.get_set] at h
      split at h
      · rename_i c
        cases h
        exact .inl ⟨e, by simp, c, rfl⟩
      · exact .inr h
/-- The blocks: the variables' own; others. -/
def blkL (n : Nat) (es : List Ent) (k : Nat) : Option Ent := if k < n then some ⟨k, 0, 0⟩ else es[k - n]?
def muL (n : Nat) (es : List Ent) : Mu := fun b => blkL n es b.num
theorem hrelL {P : Program} {ms : String → List (Nat × Nat × Rc)} {ty : Nat → Option D.Ty} {ts : List (Nat × TE)} (w : World) (n : Nat) (hn : P.globals.size = n) (es : List Ent) (nx : Nat) (hnx : nx = n + es.length) (hb : nx ≤ big) (l : List (Nat × List V × Nat))
    (h : ∀ e, e ∈ l → e.1 < n ∧ ∃ c, w.heap[e.1]? = some (.cells c e.2.2 (0, 0)) ∧ concs ms (muL n es) e.2.1 = some c.toList) : HRel (cx P ms ty ts) (muL n es) ⟨layT l, nx⟩ .lf w w := by
  have hdom : ∀ k g, blkL n es k = some g → k < nx := fun k g hk => by
    unfold blkL at hk
    split at hk
    · omega
    · have := (List.getElem?_eq_some_iff.1 hk).1
      omega
  have hget : ∀ b x, H.get ⟨layT l, nx⟩ b = some x → ∃ e c, e ∈ l ∧ b = paOf e.1 ∧ x = layB e.2 ∧ muL n es b = some ⟨e.1, 0, 0⟩ ∧ b.num = e.1 ∧ e.1 < n ∧ w.heap[e.1]? = some (.cells c e.2.2 (0, 0)) ∧ concs ms (muL n es) e.2.1 = some c.toList := fun b x hx => by
    rcases layT_get l .lf b x hx with ⟨e, he, h1, h2⟩ | h0
    · obtain ⟨h3, c, h4, h5⟩ := h e he
      have hnum : b.num = e.1 := by rw [h1]; exact num_paOf (by omega)
      exact ⟨e, c, he, h1, h2, by unfold muL blkL; rw [hnum, if_pos h3], hnum, h3, h4, h5⟩
    · rw [T.get_lf] at h0; cases h0
  refine ⟨fun b x e hx he => ?_, fun b L e h => ?_, fun b _ => T.get_lf b, fun b b' e e' hl hl' he he' hbl => ?_, fun b e hl he => ?_, fun b e he => ?_, fun b hl => ?_, hb, fun g hg => ?_, Below.refl _ _⟩
  · obtain ⟨y, c, _, _, rfl, hm, _, _, h4, h5⟩ := hget b x hx
    rw [hm] at he
    cases he
    have hlen : lenL y.2.1 0 = c.size := by
      have := ((concs_iff ms).1 h5).1
      rw [lenL_zero]
      simpa using this.symm
    refine ⟨_, h4, c, (0, 0), rfl, ⟨by show 0 + lenL y.2.1 0 ≤ _; omega, fun i _ _ => by simp [froz], fun i v hv => ?_, fun _ => rfl, fun h => absurd h (by omega), fun _ => .inl rfl⟩⟩
    obtain ⟨x, h6, h7⟩ := ((concs_iff ms).1 h5).2 i v (show y.2.1[i]? = some v from hv)
    exact ⟨x, by rw [Nat.zero_add]; simpa using h6, h7⟩
  · rw [T.get_lf] at h; cases h
  · have key : ∀ q, Live ⟨layT l, nx⟩ .lf q → ∃ x, H.get ⟨layT l, nx⟩ q = some x := fun q hq => by
      rcases hq with hq | hq
      · exact Option.ne_none_iff_exists'.1 hq
      · exact (hq (T.get_lf q)).elim
    obtain ⟨x, hx⟩ := key b hl
    obtain ⟨x', hx'⟩ := key b' hl'
    obtain ⟨y, c, m1, b1, _, hm, _, k1, _⟩ := hget b x hx
    obtain ⟨y', c', m2, b2, _, hm', _, k2, _⟩ := hget b' x' hx'
    rw [hm] at he; cases he
    rw [hm'] at he'; cases he'
    have hbl : y.1 = y'.1 := hbl
    rw [b1, b2, hbl]
  · rcases hl with hq | hq
    · obtain ⟨x, hx⟩ := Option.ne_none_iff_exists'.1 hq
      obtain ⟨y, c, _, _, rfl, _⟩ := hget b x hx
      exact .inr ⟨_, _, _, hx, Nat.le_refl _⟩
    · exact (hq (T.get_lf b)).elim
  · unfold muL at he
    exact hdom _ _ he
  · rcases hl with hq | hq
    · obtain ⟨x, hx⟩ := Option.ne_none_iff_exists'.1 hq
      obtain ⟨y, c, _, _, _, _, hn, hk, _⟩ := hget b x hx
      rw [hn]
      show y.1 < nx
      omega
    · exact (hq (T.get_lf b)).elim
  · have hg : g < n := by rw [← hn]; exact hg
    unfold muL blkL
    rw [num_paOf (by omega), if_pos hg]
/-- A call's start, with arguments. -/
def startA (E : Env) (f : Nat) (args : List V) (h : H) (r : Cf → Bool) : Bool := ob (T.get none (paOf f) E) fun x => match x with
  | .code n _ c => ok (Nat.blt n big && Nat.ble (lenL args 0) n) (r (.run ⟨⟨f, n, [], .normal, none⟩, [], .lf⟩ (argsT args 0 .lf) [.code c] h))
  | _ => false
/-- What the machine reckons of a call with arguments, the model does. -/
theorem reckonA {P : Program} {ms : String → List (Nat × Nat × Rc)} {ty : Nat → Option D.Ty} {ts : List (Nat × TE)} {E : Env} (Pg : Prg (cx P ms ty ts) ty ts E) (Ex : ExtOk (cx P ms ty ts) ty ts E) {f : Nat} (hf : f < big) {h0 : H} {w : World} {μ : Mu} (R : HRel (cx P ms ty ts) μ h0 .lf w w) {N : Nat}
    {args : List V} {L : List Value} (ha : concs ms μ args = some L) {kk : V → Bool}
    (q : (startA E f args h0 fun c => steps E N c fun c => final E f c kk) = true) : Calls P f L.toArray w fun e w' => ∃ v z μ', e = .returned z ∧ kk v = true ∧ conc ms μ' v = some z ∧ Below w.heap.size w w' := by
  intro cs
  obtain ⟨x, hE, q⟩ := ob_true.1 q
  cases x with
  | ext e => cases q
  | code n res c =>
    obtain ⟨fn, c', res', h1, h2, h3, h4, h5, _⟩ := fn_code Pg hf hE
    obtain ⟨c2, q⟩ := ok_true.1 q
    obtain ⟨c2, cl⟩ := (Bool.and_eq_true ..).mp c2
    have c2 : n < big := by simpa [Nat.blt_eq] using c2
    have cl : lenL args 0 ≤ n := by simpa [Nat.ble_eq] using cl
    let b : Frame := { (default : Frame) with fn := f, kind := .normal, roundOf := none }
    let a : Act := { tmps := L.toArray ++ Array.replicate (n - L.toArray.size) undef, defers := [] }
    have henter : Frame.enter P f L.toArray .normal = b.atR a [.code c'] := by
      have h1 : P.funcs[f]? = some fn := h1
      simp [Frame.enter, Frame.atR, h1, h3, h4, b, a]
    have A : ARel (cx P ms ty ts) μ ⟨f, n, [], .normal, none⟩ (argsT args 0 .lf) (fun _ => False) b a := by
      refine ⟨rfl, ?_, trivial, rfl, rfl⟩
      exact args_rel (X := cx P ms ty ts) (μ := μ) ha cl c2
    have hc : RcM (cx P ms ty ts) ty ts cs w (.run ⟨⟨f, n, [], .normal, none⟩, [], .lf⟩ (argsT args 0 .lf) [.code c] h0) (lone (b.atR a [.code c']) cs w) := by
      refine ⟨μ, 0, w, b, a, _, fun _ => False, cs, rfl, R, Nat.zero_le _, A, ?_, rfl⟩
      rw [h5]
      exact .plain (.code c' .nil)
    obtain ⟨c3, M, hst, hc3, q⟩ := steps_ok Pg Ex N hc q
    obtain ⟨fr, w', v, z, μ', rfl, hfn, hlv, hv, hz, hb⟩ := final_ok Pg hc3 q
    refine ⟨.returned z, w', fr, ⟨v, z, μ', rfl, hv, hz, hb⟩, ?_, hfn, hlv⟩
    rw [henter]
    exact hst
theorem reckonB {P : Program} {ms : String → List (Nat × Nat × Rc)} {ty : Nat → Option D.Ty} {ts : List (Nat × TE)} {E : Env} (Pg : Prg (cx P ms ty ts) ty ts E) (Ex : ExtOk (cx P ms ty ts) ty ts E) {f : Nat} (hf : f < big) {h0 : H} {w : World} {μ : Mu} (R : HRel (cx P ms ty ts) μ h0 .lf w w) {N : Nat}
    {args : List V} {L : List Value} (ha : concs ms μ args = some L) 
    (q : (startA E f args h0 fun c => steps E N c fun c => final E f c fun v => asB v fun b => b) = true) : Calls P f L.toArray w fun e w' => e = .returned (.bool true) ∧ Below w.heap.size w w' :=
  (reckonA Pg Ex hf R ha q).mono fun e w' ⟨v, z, μ', he, hk, hz, hb⟩ => by
    obtain ⟨x, rfl, rfl⟩ := asB_true hk
    cases rv_b (X := cx P ms ty ts) hz
    exact ⟨he, hb⟩
end
end PH.R
/-
  The reckoner: a run that is cut in two, where a call returns: objects that nothing reaches are dropped there.
-/
namespace PH.R
open Go Go.RowKit
noncomputable section
theorem gcT_get {h : T (Option B)} {b : Pa} {x : B} : ∀ (l : List Pa) (t : T (Option B)), T.get none b (gcT h l t) = some x → T.get none b h = some x ∨ T.get none b t = some x
  | [], t, q => .inr q
  | p :: l, t, q => by
    rcases gcT_get l _ (show T.get none b (gcT h l _) = some x from q) with q | q
    · exact .inl q
    · cases hp : T.get none p h with
      | none => rw [hp] at q; exact .inr q
      | some y =>
        rw [hp] at q
        rw [T.get_set] at q
        split at q
        · rename_i e
          cases q
          rw [e]
          exact .inl hp
        · exact .inr q
theorem gcH_get {l : List Pa} {h : H} {b : Pa} {x : B} (q : (gcH l h).get b = some x) : h.get b = some x := by
  rcases gcT_get l .lf q with q | q
  · exact q
  · rw [T.get_lf] at q; cases q
theorem gc_live {l : List Pa} {h : H} {ls : T (Option Lp)} {b : Pa} (q : Live (gcH l h) .lf b) : Live h ls b ∧ ∃ x, h.get b = some x ∧ (gcH l h).get b = some x := by
  rcases q with q | q
  · obtain ⟨x, hx⟩ := Option.ne_none_iff_exists'.1 q
    exact ⟨.inl (by rw [gcH_get hx]; simp), x, gcH_get hx, hx⟩
  · exact (q (T.get_lf b)).elim
theorem HRel.gc {X : Cx} {μ : Mu} {h : H} {ls : T (Option Lp)} {w0 w : World} (R : HRel X μ h ls w0 w) (l : List Pa) : HRel X μ (gcH l h) .lf w0 w where
  obj := fun b x e hx he => R.obj b x e (gcH_get hx) he
  lp := fun b L e q => by rw [T.get_lf] at q; cases q
  apart := fun b _ => T.get_lf b
  inj := fun b b' e e' hl hl' he he' hbl => R.inj b b' e e' (gc_live hl).1 (gc_live hl').1 he he' hbl
  fresh := fun b e hl he => by
    obtain ⟨h1, x, hx, hx'⟩ := gc_live (ls := ls) hl
    rcases R.fresh b e h1 he with q | ⟨r, fz, el, hg, hr⟩
    · exact .inl q
    · exact .inr ⟨r, fz, el, by rw [hx', ← hx, hg], hr⟩
  dom := R.dom
  live := fun b hl => R.live b (gc_live hl).1
  next := R.next
  glob := R.glob
  below := R.below
section
variable {X : Cx} {ty : Nat → Option D.Ty} {ts : List (Nat × TE)} {cs0 : List Frame} {w0 : World}
theorem gc_ok (l : List Pa) {c : Cf} {M : Machine} (hc : RcM X ty ts cs0 w0 c M) : RcM X ty ts cs0 w0 (gcC l c) M := by
  cases c with
  | run k t todo h => exact hc
  | ret k t h =>
    obtain ⟨μ, lo, w, b, a, items, cs, h1, R, h2, h3, h4⟩ := hc
    exact ⟨μ, lo, w, b, a, items, cs, h1, R.gc l, h2, h3, h4⟩
/-- A run that comes to a configuration, whatever is asked of it. -/
theorem steps_cut {E : Env} (Pg : Prg X ty ts E) (Ex : ExtOk X ty ts E) {n : Nat} {c c1 : Cf} {M : Machine} (l : List Pa) (hc : RcM X ty ts cs0 w0 c M) (q : ∀ r : Cf → Bool, steps E n c (fun x => r (gcC l x)) = r c1) : ∃ M', Steps X.P M M' ∧ RcM X ty ts cs0 w0 c1 M' := by
  classical
  have h := q fun y => decide (y = c1)
  rw [decide_eq_true rfl] at h
  obtain ⟨c', M', h1, h2, h3⟩ := steps_ok Pg Ex n hc h
  obtain rfl := of_decide_eq_true h3
  exact ⟨M', h1, gc_ok l h2⟩
end
/-- A call's start, without arguments, as a configuration. -/
theorem start_cf {E : Env} {f : Nat} {h : H} {r : Cf → Bool} (q : start E f h r = true) : ∃ c, r c = true ∧ ∀ r', start E f h r' = r' c := by
  unfold start at q ⊢
  obtain ⟨x, hE, q⟩ := ob_true.1 q
  rw [hE]
  cases x with
  | ext e => cases q
  | code n res c =>
    obtain ⟨c2, q⟩ := ok_true.1 q
    refine ⟨_, q, fun r' => ?_⟩
    show ok (Nat.blt n big) _ = _
    rw [c2]
    rfl
/-- The model comes, from the call's entry, to where the machine stands. -/
def AtC (P : Program) (ms : String → List (Nat × Nat × Rc)) (ty : Nat → Option D.Ty) (ts : List (Nat × TE)) (f : Nat) (w : World) (c : Cf) : Prop :=
  ∀ cs : List Frame, ∃ M, Steps P (lone (Frame.enter P f #[] .normal) cs w) M ∧ RcM (cx P ms ty ts) ty ts cs w c M
section
variable {P : Program} {ms : String → List (Nat × Nat × Rc)} {ty : Nat → Option D.Ty} {ts : List (Nat × TE)} {E : Env}
theorem at_first (Pg : Prg (cx P ms ty ts) ty ts E) (Ex : ExtOk (cx P ms ty ts) ty ts E) {f : Nat} (hf : f < big) {h0 : H} {w : World} {μ : Mu} (R : HRel (cx P ms ty ts) μ h0 .lf w w) {N1 : Nat} (l : List Pa) {c1 : Cf}
    (q1 : ∀ r : Cf → Bool, (PH.R.start E f h0 fun c => steps E N1 c fun c => r (gcC l c)) = r c1) : AtC P ms ty ts f w c1 := by
  obtain ⟨c0, _, hc0⟩ := start_cf (q1 fun _ => true)
  have q1' : ∀ r : Cf → Bool, steps E N1 c0 (fun c => r (gcC l c)) = r c1 := fun r => by rw [← q1 r, hc0]
  intro cs
  have q := q1 fun _ => true
  obtain ⟨x, hE, q⟩ := ob_true.1 q
  cases x with
  | ext e => cases q
  | code n res c =>
    obtain ⟨fn, c', res', h1, h2, h3, h4, h5, _⟩ := fn_code Pg hf hE
    obtain ⟨c2, q⟩ := ok_true.1 q
    have e0 : c0 = .run ⟨⟨f, n, [], .normal, none⟩, [], .lf⟩ .lf [.code c] h0 := by
      classical
      have := hc0 fun y => decide (y = c0)
      rw [decide_eq_true rfl] at this
      obtain ⟨y, hy, this⟩ := ob_true.1 this
      rw [hE] at hy
      cases hy
      obtain ⟨_, this⟩ := ok_true.1 this
      exact (of_decide_eq_true this).symm
    have c2 : n < big := by simpa [Nat.blt_eq] using c2
    let b : Frame := { (default : Frame) with fn := f, kind := .normal, roundOf := none }
    let a : Act := { tmps := #[] ++ Array.replicate (n - 0) undef, defers := [] }
    have henter : Frame.enter P f #[] .normal = b.atR a [.code c'] := by
      have h1 : P.funcs[f]? = some fn := h1
      simp [Frame.enter, Frame.atR, h1, h3, h4, b, a]
    have A : ARel (cx P ms ty ts) μ ⟨f, n, [], .normal, none⟩ .lf (fun _ => False) b a := by
      refine ⟨rfl, ?_, trivial, rfl, rfl⟩
      have := args_rel (X := cx P ms ty ts) (μ := μ) (args := []) (L := []) rfl (n := n) (by simp [lenL]) c2
      simpa [argsT, a] using this
    have hc : RcM (cx P ms ty ts) ty ts cs w c0 (lone (b.atR a [.code c']) cs w) := by
      rw [e0]
      refine ⟨μ, 0, w, b, a, _, fun _ => False, cs, rfl, R, Nat.zero_le _, A, ?_, rfl⟩
      rw [h5]
      exact .plain (.code c' .nil)
    obtain ⟨M1, hs1, hm1⟩ := steps_cut Pg Ex l hc q1'
    exact ⟨M1, by rw [henter]; exact hs1, hm1⟩
theorem AtC.cut (Pg : Prg (cx P ms ty ts) ty ts E) (Ex : ExtOk (cx P ms ty ts) ty ts E) {f : Nat} {w : World} {c c1 : Cf} (A : AtC P ms ty ts f w c) {N : Nat} (l : List Pa)
    (q : ∀ r : Cf → Bool, (steps E N c fun c => r (gcC l c)) = r c1) : AtC P ms ty ts f w c1 := fun cs => by
  obtain ⟨M, h1, h2⟩ := A cs
  obtain ⟨M', h3, h4⟩ := steps_cut Pg Ex l h2 q
  exact ⟨M', h1.trans h3, h4⟩
/-- What the machine reckons of a call in several runs, the model does. -/
theorem AtC.last (Pg : Prg (cx P ms ty ts) ty ts E) (Ex : ExtOk (cx P ms ty ts) ty ts E) {f : Nat} {w : World} {c : Cf} (A : AtC P ms ty ts f w c) {N : Nat}
    (q : (steps E N c fun c => final E f c fun v => asB v fun b => b) = true) : Calls P f #[] w fun | .returned v, w' => v = .bool true ∧ Below w.heap.size w w' | _, _ => False := fun cs => by
  obtain ⟨M1, hs1, hm1⟩ := A cs
  obtain ⟨c3, M, hst, hc3, q⟩ := steps_ok Pg Ex N hm1 q
  obtain ⟨fr, w', v, z, μ', rfl, hfn, hlv, hv, hz, hb⟩ := final_ok Pg hc3 q
  obtain ⟨x, rfl, hx⟩ := asB_true hv
  cases rv_b (X := cx P ms ty ts) hz
  exact ⟨.returned (.bool x), w', fr, ⟨by rw [hx], hb⟩, hs1.trans hst, hfn, hlv⟩
end
end
end PH.R
