/-
  posthouse/xdr: the writer's texts of a fixed length, walked.
-/
import Derived.Test.YtmkpglabiikdeaaGreatDoorAppZ
namespace Go.Proofs.YtmkpglabiikdeaaGreatDoor
open Go.RowKit PH

section
variable {E w : World} {L : List HP} {v : Value} {n : Nat} {cs : List Value}
theorem runAppS (ty : TypeId) (x : Sat E w (row 5 1 v n cs :: L)) (s : ByteArray) (hn : n + s.size ≤ 100000000) :
    ∃ v' w', (Builtin.append_ #[72, 9] ty #[v, .string s]).run Tryz.prog w = .ok v' w' ∧ Sat E w' (row 5 1 v' (n + s.size) (cs ++ cellsB (lst s)) :: L) := by
  obtain ⟨i, hi, hz, hsz, hby⟩ := info_parts (P := Tryz.prog) (e := 5) (z := .int .u8 0) (size := 1) (bytes := 1) (by kernel_rfl)
  have := x.appendSrc (P := Tryz.prog) 72 9 ty i _ 1 Tryz.underlying72 hi hz hsz hby rfl (.string s) s.size (byteCells s) (by rw [hsz]; exact Src.ofString w Tryz.underlying9 s) (by unfold maxLen; omega) (by omega)
  rwa [byteCells_lst] at this
theorem wpList_appS {ops : Array Oper} {rest : List Oper} {o : Oper} {ac : Act} {Q : Exit → Act → World → Prop} (hgd : o.guard = none) (a p : Operand) (ho : o.op = .call { callee := .builtin .append, args := #[a, p], argTypes := #[72, 9] })
    (x : Sat E w (row 5 1 v n cs :: L)) (s : ByteArray) (hn : n + s.size ≤ 100000000) (hs : ac.eval a = v) (hp : ac.eval p = .string s)
    (hk : ∀ v' w', Sat E w' (row 5 1 v' (n + s.size) (cs ++ cellsB (lst s)) :: L) → wpList Tryz.prog ops Q rest (ac.put o.dst v') w') : wpList Tryz.prog ops Q (o :: rest) ac w := by
  obtain ⟨v', w', hr, hx⟩ := runAppS o.type x s hn
  refine wpList_run hgd ?_ (hk _ _ hx)
  simp only [execOp, ho, resolve, invoke, builtin, Sem.run_bind, Sem.run_pure, Result.andThen_ok, List.map_toArray, List.map_cons, List.map_nil, hs, hp, hr]
theorem wp_appZ {o : Oper} {ac : Act} {K : Act → World → Prop} {Q : Exit → Act → World → Prop} (a p : Operand) (ho : o.op = .call { callee := .builtin .append, args := #[a, p], argTypes := #[72, 3] })
    (x : Sat E w (row 5 1 v n cs :: L)) (m : Nat) (hm : m ≤ 1000000) (hn : n ≤ 100000000) (hs : ac.eval a = v) (hp : ac.eval p = .int .i64 m)
    (h : ∀ v' w', Sat E w' (row 5 1 v' (n + m) (cs ++ List.replicate m (Value.int .u8 0)) :: L) → K (ac.put o.dst v') w') : o.wp Tryz.prog ac w K Q := by
  obtain ⟨v', w', hr, hx⟩ := appendZ x o.type m hm hn
  unfold Oper.wp execOp
  simp only [ho, resolve, invoke, builtin, Sem.run_bind, Sem.run_pure, Result.andThen_ok, List.map_toArray, List.map_cons, List.map_nil, hs, hp, hr]
  exact h _ _ hx
end
theorem cellsB_zeros (m : Nat) : cellsB (List.replicate m 0) = List.replicate m (Value.int .u8 0) := by simp [cellsB]

set_option maxRecDepth 100000 in
set_option maxHeartbeats 800000 in
theorem wFixed_ok {E W : World} {L : List HP} {b : Nat} {l : List Nat} (x : Sat E W (isWr b l :: L)) (hl : l.length ≤ 10000000) (s : ByteArray) (hs : s.size ≤ 1048576) :
    Calls Tryz.prog 40 #[.pointer (some ⟨b, 0, none⟩), .string s] W fun e w' => e = .returned (.int .i64 0) ∧ Sat E w' (isWr b (l ++ lst s ++ List.replicate (padN s.size) 0) :: L) := by
  obtain ⟨a, c, hx⟩ := wr_open x
  have c0 := cell_blk hx.at 0
  have HX := Lib.hid hx
  clear x hx
  obtain ⟨m, hm⟩ : ∃ m, s.size = m := ⟨_, rfl⟩
  have HM := Lib.hid hm
  obtain ⟨n, hn⟩ : ∃ m, l.length = m := ⟨_, rfl⟩
  have HN := Lib.hid hn
  rw [hn] at hl c0
  obtain ⟨p, hp⟩ : ∃ p, padN m = p := ⟨_, rfl⟩
  have hp4 : p ≤ 3 := by rw [← hp]; unfold padN; omega
  have HP := Lib.hid hp
  clear hn hp
  rw [hm]
  go_enter Tryz.func40, Tryz.ntmps40
  go_wp2_with (at_builtin; go_loud (refine wpList_appS rfl _ _ rfl HX.out.p1 s (by rw [HN.out]; omega) (by rw [HN.out]; rfl) rfl ?_; intro v3 w3 hx3; obtain ⟨a3, c3, rfl, -⟩ := rowSlice hx3; rw [HN.out, hm] at hx3 ⊢; have k3 := cell_blk hx3.p1.at 0; have f3 := frozen_blk hx3.p1.at 0; have HX3 := Lib.hid hx3; clear hx3 c0))
  have hx4 := (HX3.out.p1.setCell 0 (.slice a3 (n + m) c3)).drew
  have g0 : (w3.setCell ⟨b, 0, none⟩ (.slice a3 (n + m) c3)).drew.cell? ⟨b, 0, none⟩ = some (.slice a3 (n + m) c3) := cell_blk hx4.at 0
  have HX4 := Lib.hid hx4
  clear hx4 k3 f3
  refine wp_region_planL [(0, true), (1, true), (2, true), (3, true), (4, true), (5, true), (6, true), (7, false), (8, false), (9, true), (10, true), (11, false)]
    [(8, fun w1 => w1.cell? ⟨b, 0, none⟩ = some (.slice a3 (n + m) c3))] (by kernel_rfl) (by kernel_rfl) (by intro c a d v w h; cases d <;> exact h) ?_ ?_
  · exact ⟨g0, trivial⟩
  simp only [planOps, List.getElem?_cons_zero, List.getElem?_cons_succ]
  iterate 7 (first | ((apply plan_pure rfl; (intro w1; go_simp; try go_bits); with_reducible rfl); try simp only [Act.put, List.setIfInBounds_toArray, List.set_cons_zero, List.set_cons_succ]) | ((refine' plan_load 0 rfl (by kernel_rfl) rfl ?_ ?_; rotate_left; (intro w1 hw1; go_simp; with_reducible rfl)); try simp only [Act.put, List.setIfInBounds_toArray, List.set_cons_zero, List.set_cons_succ]))
  refine plan_loud rfl (fun K hK => ?_); go_simp
  refine (padw_ok m (by omega) _).mono ?_
  rintro e w5 ⟨rfl, rfl⟩
  rw [HP.out]
  dsimp only
  refine hK _ _ ⟨g0, trivial⟩ ?_
  clear hK K
  try simp only [Act.put, List.setIfInBounds_toArray, List.set_cons_zero, List.set_cons_succ]
  refine plan_loud rfl (fun K hK => ?_)
  refine wp_appZ _ _ rfl HX4.out.p1 p (by omega) (by omega) rfl rfl ?_
  intro v6 w6 hx6
  obtain ⟨a6, c6, rfl, -⟩ := rowSlice hx6
  have k6 := cell_blk hx6.p1.at 0
  have f6 := frozen_blk hx6.p1.at 0
  refine hK _ _ trivial ?_
  clear hK K
  try simp only [Act.put, List.setIfInBounds_toArray, List.set_cons_zero, List.set_cons_succ]
  iterate 2 (first | ((apply plan_pure rfl; (intro w1; go_simp; try go_bits); with_reducible rfl); try simp only [Act.put, List.setIfInBounds_toArray, List.set_cons_zero, List.set_cons_succ]) | ((refine' plan_load 0 rfl (by kernel_rfl) rfl ?_ ?_; rotate_left; (intro w1 hw1; go_simp; with_reducible rfl)); try simp only [Act.put, List.setIfInBounds_toArray, List.set_cons_zero, List.set_cons_succ]))
  refine plan_loud rfl (fun K hK => ?_); go_simp
  refine hK _ _ trivial (plan_nil ?_)
  clear hK K
  go_wp2
  go_ret
  refine ⟨rfl, wr_close (v := .slice a6 (n + m + p) c6) ?_⟩
  have h := hx6.p1.setCell 0 (.slice a6 (n + m + p) c6)
  have hlen : (l ++ lst s ++ List.replicate p 0).length = n + m + p := by rw [List.length_append, List.length_append, lst_len, List.length_replicate, HN.out, HM.out]
  rw [HP.out, hlen, cellsB_append, cellsB_append, cellsB_zeros]
  exact h
end Go.Proofs.YtmkpglabiikdeaaGreatDoor

