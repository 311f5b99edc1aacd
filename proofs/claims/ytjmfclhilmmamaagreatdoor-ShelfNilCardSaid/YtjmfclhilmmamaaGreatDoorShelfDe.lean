/-
  Layer 28: 'do' of no shelf, of the kinds 6 and 8.
-/
import Derived.Test.YtjmfclhilmmamaaGreatDoorShelfDa
import Derived.Test.YtjmfclhilmmamaaGreatDoorPlan
import Derived.Deep.AppendSrc
namespace PH
open Go Go.RowKit
theorem wp_appSrc {E w : World} {L : List HP} {P : Program} {e : TypeId} {sz : Nat} {o : Oper} {ac : Act} {K : Act → World → Prop} {Q : Exit → Act → World → Prop} (s p : Operand) (t tx : TypeId)
    (ho : o.op = .call { callee := .builtin .append, args := #[s, p], argTypes := #[t, tx] })
    (x : Sat E w L) (bytes : Nat) (z : Value) (hinf : (P.info? e).map (fun i => (i.zero, i.size, i.bytes)) = some (some z, sz, bytes)) (ht : P.underlying t = some (.slice e))
    (g : Nat) (hs : ac.eval s = .slice (some ⟨g, 0, none⟩) 0 0) (xv : Value) (m : Nat) (news : List Value) (hp : ac.eval p = xv) (hsrc : Src P sz tx xv m news w)
    (h63 : m ≤ 100000) (hbytes : m * bytes ≤ 140737488355328)
    (h : ∀ v' w', Sat E w' L → K (ac.put o.dst v') w') :
    o.wp P ac w K Q := by
  obtain ⟨i, hi, hz, hsz, hby⟩ := info_parts hinf
  subst hsz
  by_cases hm : m = 0
  · subst hm
    have hn : news = [] := List.eq_nil_of_length_eq_zero (by simpa using hsrc.newsLen)
    subst hn
    have hr : (Builtin.append_ #[t, tx] o.type #[.slice (some ⟨g, 0, none⟩) 0 0, xv]).run P w = .ok (.slice (some ⟨g, 0, none⟩) 0 0) w := by
      have hc := hsrc.cells
      rcases hsrc.kind with ⟨e', hk⟩ | hk <;> simp [Builtin.append_, run_underlying ht, run_underlying hk, Go.sizeOf, typeInfo, hi, hsrc.len, hc, storeCells]
    unfold Oper.wp execOp
    simp only [ho, resolve, invoke, builtin, Sem.run_bind, Sem.run_pure, Result.andThen_ok, List.map_toArray, List.map_cons, List.map_nil, hs, hp, hr]
    exact h _ _ x
  · have hr := run_append_grow_src (P := P) w t tx o.type e i z ht hi hz (some ⟨g, 0, none⟩) 0 0 [] (run_firstCells_some w.drew i.size 0 ⟨g, 0, none⟩ 0 0 [] (by simp) (by simp)) xv m news hsrc (by omega) (by omega) (by
        have := growslice_fits (need := 0 + m) (old := 0) (bytes := i.bytes) (by omega) (by rw [hby]; simpa using hbytes)
        simpa using this)
    unfold Oper.wp execOp
    simp only [ho, resolve, invoke, builtin, Sem.run_bind, Sem.run_pure, Result.andThen_ok, List.map_toArray, List.map_cons, List.map_nil, hs, hp, hr]
    exact h _ _ ((x.drew.alloc _).tail)
end PH
namespace Go.Proofs.YtjmfclhilmmamaaGreatDoor
open Go.RowKit PH

/-- A slice of pairs of changes, that can be read. -/
def WccSrc (w : World) (l : Value) : Prop := (∃ c, l = .slice none 0 c) ∨ ∃ (a : Addr) (n c : Nat) (news : List Value), l = .slice (some a) n c ∧ n ≤ 10 ∧ news.length = n * 13 ∧ (∀ (j : Nat) u, news[j]? = some u → w.cell? (a.add j) = some u) ∧ ∀ u ∈ news, u.oneCell' = true
theorem WccSrc.alloc {w : World} {l : Value} (h : WccSrc w l) (o : Obj) : WccSrc (w.alloc o) l := by
  rcases h with h | ⟨a, n, c, news, h1, h2, h3, h4, h5⟩
  · exact .inl h
  · exact .inr ⟨a, n, c, news, h1, h2, h3, fun j u hj => cell_al (h4 j u hj), h5⟩
theorem WccSrc.drew {w : World} {l : Value} (h : WccSrc w l) : WccSrc w.drew l := by
  rcases h with h | ⟨a, n, c, news, h1, h2, h3, h4, h5⟩
  · exact .inl h
  · exact .inr ⟨a, n, c, news, h1, h2, h3, fun j u hj => h4 j u hj, h5⟩
theorem WccSrc.src {w : World} {l : Value} (h : WccSrc w l) : ∃ m news, m ≤ 10 ∧ Src Tryz.prog 13 27 l m news w := by
  rcases h with ⟨c, rfl⟩ | ⟨a, n, c, news, rfl, h2, h3, h4, h5⟩
  · exact ⟨0, [], by omega, Src.ofNil w Tryz.underlying27 c⟩
  · exact ⟨n, news, h2, Src.ofSlice w Tryz.underlying27 a n c news h3 h4 h5⟩
set_option maxRecDepth 100000 in
set_option maxHeartbeats 1600000 in
theorem do6 {E W : World} {L : List HP} (x : Sat E W L) (up key name text : ByteArray) (n m : Int) (l : Value) (hl : WccSrc W l) : Calls Tryz.prog 9 #[.pointer none, .agg #[.int .i64 6, .string up, .string key, .string name, .string text, .int .i64 n, .int .i64 m, l]] W fun e w' => e = .returned (.agg (ansR 1)) ∧ Sat E w' L := by
  have HX := Lib.hid x
  clear x
  go_enter Tryz.func9, Tryz.ntmps9
  go_wp2
  have hx0 := ((HX.out.alloc (.cells #[.int .i64 6, .string up, .string key, .string name, .string text, .int .i64 n, .int .i64 m, l] 29)).alloc (.cells (ansR 0) 37)).alloc (.cells (ansR 0) 37)
  have hl0 := (((hl.alloc (.cells #[.int .i64 6, .string up, .string key, .string name, .string text, .int .i64 n, .int .i64 m, l] 29)).alloc (.cells (ansR 0) 37)).alloc (.cells (ansR 0) 37)).drew.alloc (.cells #[] 105)
  have HL := Lib.hid hl0
  clear hl0 hl
  refine wp_region_planL [(0, true), (2, true), (3, true), (5, true), (6, true), (7, true), (8, true), (1, false), (4, false), (9, false), (10, true), (11, false)]
    [(12, fun w1 => w1.cell? ⟨W.heap.size, 5, none⟩ = some (.int .i64 n) ∧ w1.cell? ⟨W.heap.size, 6, none⟩ = some (.int .i64 m) ∧ w1.cell? ⟨W.heap.size, 7, none⟩ = some l)] (by kernel_rfl) (by kernel_rfl) (by intro c a d v w h; cases d <;> exact h) ?_ ?_
  · exact ⟨⟨by go_simp, by go_simp, by go_simp⟩, trivial⟩
  simp only [planOps, List.getElem?_cons_zero, List.getElem?_cons_succ]
  iterate 7 (first | ((apply plan_pure rfl; (intro w1; go_simp; try go_bits); with_reducible rfl); try simp only [Act.put, List.setIfInBounds_toArray, List.set_cons_zero, List.set_cons_succ]) | ((refine' plan_load 0 rfl (by kernel_rfl) rfl ?_ ?_; rotate_left; (intro w1 hw1; go_simp; with_reducible rfl)); try simp only [Act.put, List.setIfInBounds_toArray, List.set_cons_zero, List.set_cons_succ]))
  refine plan_loud rfl (fun K hK => ?_); go_simp
  refine hK _ _ ⟨⟨by go_simp, by go_simp, by go_simp⟩, trivial⟩ ?_
  clear hK K
  try simp only [Act.put, List.setIfInBounds_toArray, List.set_cons_zero, List.set_cons_succ]
  refine plan_loud rfl (fun K hK => ?_)
  obtain ⟨mm, news, hmm, hsrc⟩ := HL.out.src
  refine wp_appSrc _ _ 27 27 rfl (hx0.drew.alloc (.cells #[] 105)).tail 104 (.agg #[.bool false, .int .i64 0, .bool false, .int .i64 0, .int .i64 0, .int .i64 0, .int .i64 0, .int .i64 0, .int .i64 0, .int .i64 0, .int .i64 0, .int .i64 0, .int .i64 0]) (by kernel_rfl) Tryz.underlying27 _ rfl l mm news rfl hsrc (by omega) (by omega) ?_
  intro v4 w4 hx4
  have hb4 : ∀ i, w4.cell? ⟨W.heap.size, i, none⟩ = (#[.int .i64 6, .string up, .string key, .string name, .string text, .int .i64 n, .int .i64 m, l] : Array Value)[i]? := fun i => cell_blk hx4.p2.at i
  refine hK _ _ ⟨⟨hb4 5, hb4 6, hb4 7⟩, trivial⟩ ?_
  clear hK K
  try simp only [Act.put, List.setIfInBounds_toArray, List.set_cons_zero, List.set_cons_succ]
  refine plan_loud rfl (fun K hK => ?_); go_simp
  go_at_call 16
  refine (tell_nil hx4 _ _ _).mono ?_
  rintro e w5 ⟨rfl, hx5⟩
  have hb5 : ∀ i, w5.cell? ⟨W.heap.size, i, none⟩ = (#[.int .i64 6, .string up, .string key, .string name, .string text, .int .i64 n, .int .i64 m, l] : Array Value)[i]? := fun i => cell_blk hx5.p2.at i
  have hc2 : ∀ i, w5.cell? ⟨W.heap.size + 1 + 1, i, none⟩ = (ansR 0)[i]? := (fun i => (by have h := cell_blk hx5.at i; simp only [World.size_alloc] at h; exact h))
  have hf2 : ∀ i, w5.frozen? ⟨W.heap.size + 1 + 1, i, none⟩ = false := (fun i => (by have h := frozen_blk hx5.at i; simp only [World.size_alloc] at h; exact h))
  have hc1 : ∀ i, w5.cell? ⟨W.heap.size + 1, i, none⟩ = (ansR 0)[i]? := (fun i => (by have h := cell_blk hx5.p1.at i; simp only [World.size_alloc] at h; exact h))
  have hf1 : ∀ i, w5.frozen? ⟨W.heap.size + 1, i, none⟩ = false := (fun i => (by have h := frozen_blk hx5.p1.at i; simp only [World.size_alloc] at h; exact h))
  refine hK _ _ ⟨⟨hb5 5, hb5 6, hb5 7⟩, trivial⟩ ?_
  clear hK K
  try simp only [Act.put, List.setIfInBounds_toArray, List.set_cons_zero, List.set_cons_succ]
  iterate 1 (first | ((apply plan_pure rfl; (intro w1; go_simp; try go_bits); with_reducible rfl); try simp only [Act.put, List.setIfInBounds_toArray, List.set_cons_zero, List.set_cons_succ]) | ((refine' plan_load 0 rfl (by kernel_rfl) rfl ?_ ?_; rotate_left; (intro w1 hw1; go_simp; with_reducible rfl)); try simp only [Act.put, List.setIfInBounds_toArray, List.set_cons_zero, List.set_cons_succ]))
  refine plan_loud rfl (fun K hK => ?_); go_simp
  refine hK _ _ ⟨⟨by go_simp, by go_simp, by go_simp⟩, trivial⟩ (plan_nil ?_)
  clear hK K
  try simp only [Act.put, List.setIfInBounds_toArray, List.set_cons_zero, List.set_cons_succ]
  go_wp2
  (try simp only [Exit.inBlock, Exit.then])
  have y0 := hx5
  simp only [World.size_alloc] at y0
  have y := (y0.setCell 0 (.int .i64 1)).p1
  have z := ((((((((((((((((y.setCell 0 (.int .i64 1)).setCell 1 (.string ByteArray.empty)).setCell 2 (.bool false)).setCell 3 (.int .i64 0)).setCell 4 (.int .i64 0)).setCell 5 (.string ByteArray.empty)).setCell 6 (.int .i64 0)).setCell 7 (.int .i64 0)).setCell 8 (.int .i64 0)).setCell 9 (.int .i64 0)).setCell 10 (.int .i64 0)).setCell 11 (.int .i64 0)).setCell 12 (.int .i64 0)).setCell 13 (.int .i64 0)).setCell 14 (.int .i64 0)).setCell 15 (.int .i64 0))
  exact post_row rfl (W.heap.size + 1) 37 _ (0, 0) _ rfl z.at Tryz.underlying37 rfl (by kernel_rfl) rfl ⟨rfl, z.tail.tail.tail⟩
set_option maxRecDepth 100000 in
set_option maxHeartbeats 1600000 in
theorem do8 {E W : World} {L : List HP} (x : Sat E W L) (up key name text : ByteArray) (n m : Int) (l : Value) : Calls Tryz.prog 9 #[.pointer none, .agg #[.int .i64 8, .string up, .string key, .string name, .string text, .int .i64 n, .int .i64 m, l]] W fun e w' => e = .returned (.agg (ansR 0)) ∧ Sat E w' L := by
  have HX := Lib.hid x
  clear x
  go_enter Tryz.func9, Tryz.ntmps9
  go_wp2_with (go_at_call 25; refine (doubt_nil ((((HX.out.alloc _).alloc _).alloc _).alloc _).tail _).mono ?_; rintro e w2 ⟨rfl, hx2⟩; have hc2 : ∀ i, w2.cell? ⟨W.heap.size + 1 + 1, i, none⟩ = (ansR 0)[i]? := (fun i => (by have h := cell_blk hx2.at i; simp only [World.size_alloc] at h; exact h)); have hf2 : ∀ i, w2.frozen? ⟨W.heap.size + 1 + 1, i, none⟩ = false := (fun i => (by have h := frozen_blk hx2.at i; simp only [World.size_alloc] at h; exact h)); have hc1 : ∀ i, w2.cell? ⟨W.heap.size + 1, i, none⟩ = (ansR 0)[i]? := (fun i => (by have h := cell_blk hx2.p1.at i; simp only [World.size_alloc] at h; exact h)); have hf1 : ∀ i, w2.frozen? ⟨W.heap.size + 1, i, none⟩ = false := (fun i => (by have h := frozen_blk hx2.p1.at i; simp only [World.size_alloc] at h; exact h)); have HX2 := Lib.hid hx2; clear hx2)
  (try simp only [Exit.inBlock, Exit.then])
  have y0 := HX2.out
  simp only [World.size_alloc] at y0
  have y := y0.p1
  have z := ((((((((((((((((y.setCell 0 (.int .i64 0)).setCell 1 (.string ByteArray.empty)).setCell 2 (.bool false)).setCell 3 (.int .i64 0)).setCell 4 (.int .i64 0)).setCell 5 (.string ByteArray.empty)).setCell 6 (.int .i64 0)).setCell 7 (.int .i64 0)).setCell 8 (.int .i64 0)).setCell 9 (.int .i64 0)).setCell 10 (.int .i64 0)).setCell 11 (.int .i64 0)).setCell 12 (.int .i64 0)).setCell 13 (.int .i64 0)).setCell 14 (.int .i64 0)).setCell 15 (.int .i64 0))
  exact post_row rfl (W.heap.size + 1) 37 _ (0, 0) _ rfl z.at Tryz.underlying37 rfl (by kernel_rfl) rfl ⟨rfl, z.tail.tail.tail⟩
end Go.Proofs.YtjmfclhilmmamaaGreatDoor
