/-
  Layer 30: out of no shelf NULL alone is answered: 'Do' of no shelf, walked.
-/
import Derived.Test.YtblikhdllpgeaaaGreatDoorLargeC
import Derived.Test.YtblikhdllpgeaaaGreatDoorOpq
namespace Go.Proofs.YtblikhdllpgeaaaGreatDoor
open Go.RowKit PH

/-- Who answers a procedure. -/
def ofV (p : Int) : Value := if p = 4 then .iface 119 (.agg #[]) else if p = 3 then .iface 120 (.agg #[]) else if p = 6 then .iface 121 (.agg #[]) else .nilIface
theorem of_ok (p : Int) (W : World) : Calls Tryz.prog 13 #[.int .i64 p] W fun e w' => e = .returned (ofV p) ∧ w' = W := by
  by_cases h4 : p = 4
  · subst h4
    go_enter Tryz.func13, Tryz.ntmps13
    go_wp2
    go_ret
    exact ⟨rfl, rfl⟩
  by_cases h3 : p = 3
  · subst h3
    go_enter Tryz.func13, Tryz.ntmps13
    go_wp2
    go_ret
    exact ⟨rfl, rfl⟩
  by_cases h6 : p = 6
  · subst h6
    go_enter Tryz.func13, Tryz.ntmps13
    go_wp2
    go_ret
    exact ⟨rfl, rfl⟩
  rw [show ofV p = .nilIface by simp [ofV, h3, h4, h6]]
  go_enter Tryz.func13, Tryz.ntmps13
  go_wp2
  go_ret
  exact ⟨rfl, rfl⟩
set_option maxRecDepth 100000 in
theorem node_nil {E W : World} {L : List HP} (x : Sat E W L) (s : ByteArray) : Calls Tryz.prog 31 #[.pointer none, .string s] W fun e w' => e = .returned (.tuple #[.string ByteArray.empty, .bool false]) ∧ Sat E w' L := by
  have HX := Lib.hid x
  clear x
  go_enter Tryz.func31, Tryz.ntmps31
  go_wp2
  first | go_ret | go_ret2
  exact ⟨rfl, (by first | exact HX.out | exact (HX.out.alloc _).tail | exact ((HX.out.alloc _).tail.alloc _).tail)⟩
theorem results_tct {fn : Func} {t1 t2 p : Tmp} {ty : TypeId} (h : fn.results = #[.tmp t1, .cell p ty, .tmp t2]) (tmps : Array Value) (P : Program) (w : World) :
    (results fn tmps).run P w = ((asAddr (tmps.getD p undef)).run P w).andThen fun a w₁ => ((loadVar ty a).run P w₁).andThen fun v w₂ => .ok (.tuple #[tmps.getD t1 undef, v, tmps.getD t2 undef]) w₂ := by
  simp only [results, h]
  simp [Sem.run_bind, Result.andThen]
theorem post_tct {P : Program} {fn : Func} {R : Ending → World → Prop} {a : Act} {w : World} {t1 t2 p : Tmp} {ty : TypeId} (h : fn.results = #[.tmp t1, .cell p ty, .tmp t2]) (g : Nat) (t : TypeId) (cs : Array Value) (fr : Nat × Nat) (d : TypeDesc)
    (hp : a.tmps.getD p undef = .pointer (some ⟨g, 0, none⟩)) (hg : w.heap[g]? = some (.cells cs t fr))
    (hu : P.underlying ty = some d) (hd : (match d with | .struct _ | .array _ _ => true | _ => false) = true) (hi : (P.info? ty).map (·.size) = some cs.size) (hds : a.defers = []) (hR : R (.returned (.tuple #[a.tmps.getD t1 undef, .agg cs, a.tmps.getD t2 undef])) w) : bodyPost P fn R .ret a w :=
  bodyPost_ret (v := .tuple #[a.tmps.getD t1 undef, .agg cs, a.tmps.getD t2 undef]) (by
    rw [results_tct h, hp]
    have e : (asAddr (.pointer (some ⟨g, 0, none⟩))).run P w = .ok ⟨g, 0, none⟩ w := rfl
    rw [e]
    simp only [Result.andThen, run_loadVar_row w g t ty cs fr d hg hu hd hi]) hds hR
abbrev zeroA : List Value := [.int .i64 0, .int .i64 0, .int .i64 0, .int .i64 0, .int .i64 0, .int .i64 0, .int .i64 0, .int .i64 0, .int .i64 0, .int .i64 0]
/-- A reply of noughts: it stands unread. -/
def zR : List Value := [.int .i64 0, .string ByteArray.empty, .bool false, .int .i64 0, .int .i64 0, .int .i64 0, .int .i64 0, .int .i64 0, .int .i64 0, .int .i64 0, .int .i64 0, .int .i64 0, .int .i64 0, .bool false, .int .i64 0, .int .i64 0, .int .i64 0, .int .i64 0, .int .i64 0, .int .i64 0, .int .i64 0, .int .i64 0, .int .i64 0, .int .i64 0, .bool false, .int .i64 0, .bool false, .int .i64 0, .int .i64 0, .int .i64 0, .int .i64 0, .int .i64 0, .int .i64 0, .int .i64 0, .int .i64 0, .int .i64 0, .int .i64 0, .bool false, .int .i64 0, .bool false, .int .i64 0, .int .i64 0, .int .i64 0, .int .i64 0, .int .i64 0, .int .i64 0, .int .i64 0, .int .i64 0, .int .i64 0, .int .i64 0, .int .i64 0, .int .i64 0, .bool false, .string ByteArray.empty, .int .i64 0, .int .i64 0, .slice none 0 0, .slice none 0 0]
theorem zR_zero : ((Tryz.prog.info? 44).bind fun i => i.zero) = some (.agg zR.toArray) := by kernel_rfl
theorem zR_size : (Tryz.prog.info? 44).map (·.size) = some zR.toArray.size := by kernel_rfl
theorem zR_sizeL : (Tryz.prog.info? 44).map (·.size) = some zR.length := by kernel_rfl
theorem zR_one : zR.toArray.all (·.oneCell') = true := by kernel_rfl
set_option maxRecDepth 100000 in
theorem zR_build (w : World) : (Instr.build 44 #[]).run Tryz.prog w = .ok (.agg zR.toArray) w := by kernel_rfl
set_option maxRecDepth 100000 in
theorem known_nil {E W : World} {L : List HP} (x : Sat E W L) (s : ByteArray) : Calls Tryz.prog 14 #[.pointer none, .string s] W fun e w' => e = .returned (.tuple #[.string ByteArray.empty, .agg zeroA.toArray, .bool false]) ∧ Sat E w' L := by
  have HX := Lib.hid x
  clear x
  go_enter Tryz.func14, Tryz.ntmps14
  go_wp2_with (go_at_call 31; refine (node_nil (HX.out.alloc (.cells zeroA.toArray 36)) s).mono ?_; rintro e w2 ⟨rfl, hx2⟩; have hc : ∀ i, w2.cell? ⟨W.heap.size, i, none⟩ = (zeroA.toArray)[i]? := (fun i => cell_blk hx2.at i); have hf : ∀ i, w2.frozen? ⟨W.heap.size, i, none⟩ = false := (fun i => frozen_blk hx2.at i); have HX2 := Lib.hid hx2; clear hx2)
  (try simp only [Exit.inBlock, Exit.then])
  have y := HX2.out
  have z := ((((((((((y.setCell 0 (.int .i64 0)).setCell 1 (.int .i64 0)).setCell 2 (.int .i64 0)).setCell 3 (.int .i64 0)).setCell 4 (.int .i64 0)).setCell 5 (.int .i64 0)).setCell 6 (.int .i64 0)).setCell 7 (.int .i64 0)).setCell 8 (.int .i64 0)).setCell 9 (.int .i64 0))
  exact post_tct rfl W.heap.size 36 _ (0, 0) _ rfl z.at Tryz.underlying36 rfl (by kernel_rfl) rfl ⟨rfl, z.tail⟩
theorem row_there {E w : World} {L : List HP} {b : Nat} {c : Array Value} {ty : TypeId} (x : Sat E w (pt b (.cells c ty) :: L)) : w.there b 0 c.size := fun j hj => by
  rw [Nat.zero_add]
  exact ⟨by rw [cell_blk x.at, Array.getElem?_eq_getElem hj]; rfl, frozen_blk x.at j⟩
theorem wpl_store {P : Program} {ops : Array Oper} {Q : Exit → Act → World → Prop} {rest : List Oper} {ac : Act} {w : World} {d : Option Tmp} {k k2 : Tmp} {ty : TypeId} {pos : String} {af : Array Edge} (t : TypeId) (b : Nat) (cs : List Value)
    (ht : w.there b 0 cs.toArray.size) (hi : (P.info? t).map (·.size) = some cs.toArray.size) (h1 : cs.toArray.all (·.oneCell') = true)
    (hx : ac.eval (.tmp k) = .pointer (some ⟨b, 0, none⟩)) (hy : ac.eval (.tmp k2) = .agg cs.toArray) (h : wpList P ops Q rest (ac.put d undef) (w.setCells b 0 cs)) :
    wpList P ops Q ({ dst := d, op := .store t (.tmp k) (.tmp k2), type := ty, pos := pos, after := af, guard := none } :: rest) ac w :=
  wpList_store_mid rfl t _ _ rfl b 0 cs.toArray hx hy ht hi h1 (by simpa using h)
theorem row_store {E w : World} {L : List HP} {b : Nat} {c : List Value} {ty : TypeId} (x : Sat E w (pt b (.cells c.toArray ty) :: L)) : Sat E (w.setCells b 0 c) (pt b (.cells c.toArray ty) :: L) := by
  have key : ∀ (vs : List Value) (o : Nat) (w : World) (ar : Array Value), Sat E w (pt b (.cells ar ty) :: L) → (∀ (j : Nat) v, vs[j]? = some v → ar[o + j]? = some v) → Sat E (w.setCells b o vs) (pt b (.cells ar ty) :: L) := by
    intro vs
    induction vs with
    | nil => intro o w ar x _; exact x
    | cons v vs ih =>
      intro o w ar x h
      have h0 : ar[o]? = some v := by simpa using h 0 v rfl
      have hlt : o < ar.size := (Array.getElem?_eq_some_iff.1 h0).1
      have x2 := x.setCell o v
      have e : ar.setIfInBounds o v = ar := by
        apply Array.ext_getElem?
        intro k
        rw [Array.getElem?_setIfInBounds]
        by_cases hk : o = k
        · subst hk; rw [if_pos rfl, if_pos hlt, h0]
        · rw [if_neg hk]
      rw [e] at x2
      exact ih (o + 1) _ ar x2 fun j u hj => by
        have := h (j + 1) u (by simpa using hj)
        rwa [show o + 1 + j = o + (j + 1) by omega]
  exact key c 0 w c.toArray x fun j v hj => by rw [Nat.zero_add]; simpa using hj
set_option maxRecDepth 100000 in
set_option maxHeartbeats 800000 in
theorem serve_nil {E W : World} {L : List HP} (x : Sat E W L) (B C : List Value) (p : Int) (s : ByteArray) (h0 : C[0]? = some (.int .i64 p)) (h1 : C[1]? = some (.string s)) : Calls Tryz.prog 6 #[.pointer none, .agg B.toArray, .agg C.toArray] W fun e w' => e = .returned (.tuple #[.agg zR.toArray, .bool (p == 0)]) ∧ Sat E w' L := by
  have hx0 : Sat E (((W.alloc (.cells B.toArray 23)).alloc (.cells C.toArray 29)).alloc (.cells zR.toArray 44)) (pt (W.heap.size + 1 + 1) (.cells zR.toArray 44) :: pt (W.heap.size + 1) (.cells C.toArray 29) :: L) := by
    have h := (((x.alloc (.cells B.toArray 23)).tail).alloc (.cells C.toArray 29)).alloc (.cells zR.toArray 44)
    simp only [World.size_alloc] at h
    exact h
  have HX := Lib.hid hx0
  have HT0 := Lib.hid (row_there hx0)
  have c0 : (((W.alloc (.cells B.toArray 23)).alloc (.cells C.toArray 29)).alloc (.cells zR.toArray 44)).cell? ⟨W.heap.size + 1, 0, none⟩ = some (.int .i64 p) := by rw [cell_blk hx0.p1.at]; simpa using h0
  have c1 : (((W.alloc (.cells B.toArray 23)).alloc (.cells C.toArray 29)).alloc (.cells zR.toArray 44)).cell? ⟨W.heap.size + 1, 1, none⟩ = some (.string s) := by rw [cell_blk hx0.p1.at]; simpa using h1
  clear hx0 x
  by_cases hp0 : p = 0
  · subst hp0
    have hof : ofV 0 = .nilIface := rfl
    go_enter Tryz.func6, Tryz.ntmps6
    go_wp2_with (first
      | (with_reducible refine wpl_alloc 44 zR zR_zero ?_)
      | (with_reducible refine wpl_build 44 _ zR_build ?_)
      | (with_reducible refine wpl_store 44 (W.heap.size + 1 + 1) zR ?_ zR_size zR_one ?_ ?_ ?_)
      | (go_at_call 13; refine (of_ok 0 _).mono ?_; rintro e w1 ⟨rfl, rfl⟩; rw [hof])
      | (go_at_call 14; refine (known_nil HX.out s).mono ?_; rintro e w2 ⟨rfl, hx2⟩; have HT2 := Lib.hid (row_there (hx2.alloc (.cells zeroA.toArray 36)).p1); have HX2 := Lib.hid ((hx2.alloc (.cells zeroA.toArray 36)).p1); clear hx2))
    all_goals first
      | rfl
      | exact HT0.out
      | ((try simp only [Exit.inBlock, Exit.then]); exact post_row2 rfl (W.heap.size + 1 + 1) 44 zR.toArray (0, 0) _ rfl (row_store HX.out).at Tryz.underlying44 rfl zR_size rfl ⟨rfl, (row_store HX.out).tail.tail⟩)
  by_cases hp4 : p = 4
  · subst hp4
    have hof : ofV 4 = .iface 119 (.agg #[]) := rfl
    rw [show ((4 : Int) == 0) = false from rfl]
    go_enter Tryz.func6, Tryz.ntmps6
    go_wp2_with (first
      | (with_reducible refine wpl_alloc 44 zR zR_zero ?_)
      | (with_reducible refine wpl_build 44 _ zR_build ?_)
      | (with_reducible refine wpl_store 44 (W.heap.size + 1 + 1) zR ?_ zR_size zR_one ?_ ?_ ?_)
      | (go_at_call 13; refine (of_ok 4 _).mono ?_; rintro e w1 ⟨rfl, rfl⟩; rw [hof])
      | (go_at_call 14; refine (known_nil HX.out s).mono ?_; rintro e w2 ⟨rfl, hx2⟩; have HT2 := Lib.hid (row_there (hx2.alloc (.cells zeroA.toArray 36)).p1); have HX2 := Lib.hid ((hx2.alloc (.cells zeroA.toArray 36)).p1); clear hx2))
    all_goals first
      | rfl
      | exact HT2.out
      | ((try simp only [Exit.inBlock, Exit.then]); exact post_row2 rfl (W.heap.size + 1 + 1) 44 zR.toArray (0, 0) _ rfl (row_store HX2.out).at Tryz.underlying44 rfl zR_size rfl ⟨rfl, (row_store HX2.out).tail.tail.tail⟩)
  by_cases hp3 : p = 3
  · subst hp3
    have hof : ofV 3 = .iface 120 (.agg #[]) := rfl
    rw [show ((3 : Int) == 0) = false from rfl]
    go_enter Tryz.func6, Tryz.ntmps6
    go_wp2_with (first
      | (with_reducible refine wpl_alloc 44 zR zR_zero ?_)
      | (with_reducible refine wpl_build 44 _ zR_build ?_)
      | (with_reducible refine wpl_store 44 (W.heap.size + 1 + 1) zR ?_ zR_size zR_one ?_ ?_ ?_)
      | (go_at_call 13; refine (of_ok 3 _).mono ?_; rintro e w1 ⟨rfl, rfl⟩; rw [hof])
      | (go_at_call 14; refine (known_nil HX.out s).mono ?_; rintro e w2 ⟨rfl, hx2⟩; have HT2 := Lib.hid (row_there (hx2.alloc (.cells zeroA.toArray 36)).p1); have HX2 := Lib.hid ((hx2.alloc (.cells zeroA.toArray 36)).p1); clear hx2))
    all_goals first
      | rfl
      | exact HT2.out
      | ((try simp only [Exit.inBlock, Exit.then]); exact post_row2 rfl (W.heap.size + 1 + 1) 44 zR.toArray (0, 0) _ rfl (row_store HX2.out).at Tryz.underlying44 rfl zR_size rfl ⟨rfl, (row_store HX2.out).tail.tail.tail⟩)
  by_cases hp6 : p = 6
  · subst hp6
    have hof : ofV 6 = .iface 121 (.agg #[]) := rfl
    rw [show ((6 : Int) == 0) = false from rfl]
    go_enter Tryz.func6, Tryz.ntmps6
    go_wp2_with (first
      | (with_reducible refine wpl_alloc 44 zR zR_zero ?_)
      | (with_reducible refine wpl_build 44 _ zR_build ?_)
      | (with_reducible refine wpl_store 44 (W.heap.size + 1 + 1) zR ?_ zR_size zR_one ?_ ?_ ?_)
      | (go_at_call 13; refine (of_ok 6 _).mono ?_; rintro e w1 ⟨rfl, rfl⟩; rw [hof])
      | (go_at_call 14; refine (known_nil HX.out s).mono ?_; rintro e w2 ⟨rfl, hx2⟩; have HT2 := Lib.hid (row_there (hx2.alloc (.cells zeroA.toArray 36)).p1); have HX2 := Lib.hid ((hx2.alloc (.cells zeroA.toArray 36)).p1); clear hx2))
    all_goals first
      | rfl
      | exact HT2.out
      | ((try simp only [Exit.inBlock, Exit.then]); exact post_row2 rfl (W.heap.size + 1 + 1) 44 zR.toArray (0, 0) _ rfl (row_store HX2.out).at Tryz.underlying44 rfl zR_size rfl ⟨rfl, (row_store HX2.out).tail.tail.tail⟩)
  · have hof : ofV p = .nilIface := by simp [ofV, hp4, hp3, hp6]
    rw [show (p == 0) = false by simpa using hp0]
    go_enter Tryz.func6, Tryz.ntmps6
    go_wp2_with (first
      | (with_reducible refine wpl_alloc 44 zR zR_zero ?_)
      | (with_reducible refine wpl_build 44 _ zR_build ?_)
      | (with_reducible refine wpl_store 44 (W.heap.size + 1 + 1) zR ?_ zR_size zR_one ?_ ?_ ?_)
      | (go_at_call 13; refine (of_ok p _).mono ?_; rintro e w1 ⟨rfl, rfl⟩; rw [hof])
      | (go_at_call 14; refine (known_nil HX.out s).mono ?_; rintro e w2 ⟨rfl, hx2⟩; have HT2 := Lib.hid (row_there (hx2.alloc (.cells zeroA.toArray 36)).p1); have HX2 := Lib.hid ((hx2.alloc (.cells zeroA.toArray 36)).p1); clear hx2))
    all_goals first
      | rfl
      | exact HT0.out
      | ((try simp only [Exit.inBlock, Exit.then]); exact post_row2 rfl (W.heap.size + 1 + 1) 44 zR.toArray (0, 0) _ rfl (row_store HX.out).at Tryz.underlying44 rfl zR_size rfl ⟨rfl, (row_store HX.out).tail.tail⟩)
end Go.Proofs.YtblikhdllpgeaaaGreatDoor
