/-
  Small lemmas on ownership and rows, more of them. Generic, no program in sight.
-/
import Derived.Test.YtodjdcdbmbmbmaaGreatDoorRange
namespace PH
open Go Go.RowKit

theorem Sat.ofBelow {E w w' : World} {L : List HP} (x : Sat E w L) (h : Below w.heap.size w w') : Sat E w' L :=
  x.grow h.os h.tape h.output fun k _ hk => (h.block k (Array.getElem?_eq_some_iff.1 hk).1).trans hk

theorem cells_new (w : World) (cs : List Value) (t : TypeId) : ∀ j u, cs[j]? = some u → (w.alloc (.cells cs.toArray t)).cell? ((⟨w.heap.size, 0, none⟩ : Addr).add j) = some u := by
  intro j u hj
  have hadd : (⟨w.heap.size, 0, none⟩ : Addr).add j = ⟨w.heap.size, j, none⟩ := by unfold Addr.add; split <;> simp_all
  rw [hadd, cell_blk (heap_alloc_new w _)]
  simpa using hj

section
variable {E w : World} {L : List HP} {P : Program} {e : TypeId} {sz : Nat} {v : Value} {n : Nat} {cs : List Value}
/-- 'append(s, x)' behind the literal that was just laid. -/
theorem wpList_app1 {ops : Array Oper} {rest : List Oper} {o : Oper} {ac : Act} {Q : Exit → Act → World → Prop} (hgd : o.guard = none) (s p : Operand) (t : TypeId)
    (ho : o.op = .call { callee := .builtin .append, args := #[s, p], argTypes := #[t, t] })
    (x : Sat E w (row e sz v n cs :: L)) (bytes : Nat) (z : Value) (hinf : (P.info? e).map (fun i => (i.zero, i.size, i.bytes)) = some (some z, sz, bytes)) (ht : P.underlying t = some (.slice e))
    (hzs : z.cells.size = sz) (hs : ac.eval s = v) (news : List Value) (hp : ac.eval p = .slice (some ⟨w.heap.size, 0, none⟩) 1 1) (hl : news.length = sz) (h1 : ∀ u ∈ news, u.oneCell' = true)
    (h63 : n + 1 ≤ 5764607523034234880) (hbytes : (n + 1) * bytes ≤ 140737488355328)
    (h : ∀ v' w', Sat E w' (row e sz v' (n + 1) (cs ++ news) :: L) → wpList P ops Q rest (ac.put o.dst v') w') :
    wpList P ops Q (o :: rest) ac (w.alloc (.cells news.toArray e)) := by
  obtain ⟨i, hi, hz, hsz, hby⟩ := info_parts hinf
  exact wpList_app hgd s p t ho (x.alloc (.cells news.toArray e)).tail i z bytes ht hi hz hsz hby hzs hs ⟨w.heap.size, 0, none⟩ 1 1 news hp (by omega) (cells_new w news e) h1
    (by unfold maxLen; omega) hbytes (fun v' w' h2 _ => h v' w' h2)
end
theorem retS2 {a b : ByteArray} {k : IntKind} {m n : Int} (h1 : a = b) (h2 : m = n) : Ending.returned (.tuple #[.string a, .int k m]) = .returned (.tuple #[.string b, .int k n]) := by rw [h1, h2]
theorem retSB {a b : ByteArray} {m n : Bool} (h1 : a = b) (h2 : m = n) : Ending.returned (.tuple #[.string a, .bool m]) = .returned (.tuple #[.string b, .bool n]) := by rw [h1, h2]

/-- What an owned row shows to a reader. -/
theorem Sat.rowSees {E w : World} {L : List HP} {e : TypeId} {sz : Nat} {v : Value} {n : Nat} {cs : List Value} (x : Sat E w (row e sz v n cs :: L)) (hn : 0 < n) :
    ∃ g cap, v = .slice (some ⟨g, 0, none⟩) n cap ∧ n ≤ cap ∧ cap ≤ maxLen ∧ g < w.heap.size ∧ ∀ j u, cs[j]? = some u → w.cell? ⟨g, 0 + j, none⟩ = some u := by
  obtain ⟨hl, hx⟩ := x.rowCases
  rcases hx with ⟨_, rfl, _, _⟩ | ⟨g, cap, cur, rfl, h1, h2, h3, h4, y⟩
  · omega
  · refine ⟨g, cap, rfl, h1, h2, y.lt, fun j u hj => ?_⟩
    rw [Nat.zero_add, cell_blk y.at, ← hj, ← h4, List.getElem?_take]
    have : j < n * sz := by rw [← hl]; exact (List.getElem?_eq_some_iff.1 hj).1
    simp [this]

/-- 'append(s, x)' behind the literal that was just laid: for a walk along a plan. -/
theorem wp_app1 {E w : World} {L : List HP} {P : Program} {e : TypeId} {sz : Nat} {v : Value} {n : Nat} {cs : List Value} {o : Oper} {ac : Act} {K : Act → World → Prop} {Q : Exit → Act → World → Prop} (s p : Operand) (t : TypeId)
    (ho : o.op = .call { callee := .builtin .append, args := #[s, p], argTypes := #[t, t] })
    (x : Sat E w (row e sz v n cs :: L)) (bytes : Nat) (z : Value) (hinf : (P.info? e).map (fun i => (i.zero, i.size, i.bytes)) = some (some z, sz, bytes)) (ht : P.underlying t = some (.slice e))
    (hzs : z.cells.size = sz) (hs : ac.eval s = v) (news : List Value) (hp : ac.eval p = .slice (some ⟨w.heap.size, 0, none⟩) 1 1) (hl : news.length = sz) (h1 : ∀ u ∈ news, u.oneCell' = true)
    (h63 : n + 1 ≤ 5764607523034234880) (hbytes : (n + 1) * bytes ≤ 140737488355328)
    (h : ∀ v' w', Sat E w' (row e sz v' (n + 1) (cs ++ news) :: L) → (∀ (k : Nat) (o : Obj), w.heap[k]? = some o → v.ownBlock ≠ some k → w'.heap[k]? = some o) → K (ac.put o.dst v') w') :
    o.wp P ac (w.alloc (.cells news.toArray e)) K Q := by
  obtain ⟨i, hi, hz, hsz, hby⟩ := info_parts hinf
  obtain ⟨v', w', hr, h2, h3⟩ := (x.alloc (.cells news.toArray e)).tail.append (P := P) t o.type i z bytes ht hi hz hsz hby hzs ⟨w.heap.size, 0, none⟩ 1 1 news (by omega) (cells_new w news e) h1 (by unfold maxLen; omega) hbytes
  unfold Oper.wp execOp
  simp only [ho, resolve, invoke, builtin, Sem.run_bind, Sem.run_pure, Result.andThen_ok, List.map_toArray, List.map_cons, List.map_nil, hs, hp, hr]
  exact h _ _ h2 fun k o hk hv => h3 k o ((heap_alloc_old w _ k (Array.getElem?_eq_some_iff.1 hk).1).trans hk) hv
/-- A function's end behind a range over a function. -/
theorem post_mark {P : Program} {fn : Func} {R : Ending → World → Prop} {E w : World} {L : List HP} {D n : Nat} {tmps : Array Value} {v : Value} (x : Sat E w (pt D (.deferred (some [])) :: L))
    (hr : (results fn tmps).run P (w.putObj D (.deferred none)) = .ok v (w.putObj D (.deferred none))) (hR : ∀ w', w' = w.putObj D (.deferred none) → Sat E w' L → R (.returned v) w') :
    bodyPostM Fence.wide n P fn R .ret { tmps := tmps, defers := [{ target := .collected D, args := #[] }] } w :=
  ⟨by simp, .inl ⟨_, _, rfl, run_takeDeferred x.at, v, hr, hR _ rfl (x.putObj _).tail⟩⟩

/-- An operation whose run is known. -/
theorem wpList_run {P : Program} {ops : Array Oper} {rest : List Oper} {o : Oper} {ac : Act} {Q : Exit → Act → World → Prop} {w w' : World} {v : Value} (hg : o.guard = none)
    (hr : (execOp ac.eval o).run P w = .ok (.value v) w') (h : wpList P ops Q rest (ac.put o.dst v) w') : wpList P ops Q (o :: rest) ac w :=
  wpList_plain hg fun K hK => by unfold Oper.wp; rw [hr]; exact hK _ _ h
/-- 'make([]byte, n)' -/
theorem wpList_bytes {P : Program} {ops : Array Oper} {rest : List Oper} {o : Oper} {ac : Act} {Q : Exit → Act → World → Prop} {w : World} (hg : o.guard = none) (l c : Operand) (t : TypeId)
    (hop : o.op = Op.makeSlice t l c) (e : TypeId) (n : Nat) (hn : n ≤ 1000000) (hinf : (P.info? e).map (fun i => (i.zero, i.size, i.bytes)) = some (some (.int .u8 0), 1, 1)) (ht : P.underlying t = some (.slice e))
    (hl : ac.eval l = .int .i64 n) (hc : ac.eval c = .int .i64 n)
    (h : wpList P ops Q rest (ac.put o.dst (.slice (some ⟨w.heap.size, 0, none⟩) n n)) (w.alloc (.cells (madeCells #[.int .u8 0] n) e))) : wpList P ops Q (o :: rest) ac w := by
  obtain ⟨i, hi, hz, hsz, hby⟩ := info_parts hinf
  refine wpList_run hg ?_ h
  have := run_make (P := P) w t e i _ ht hi hz .i64 .i64 n n (by omega) (by omega) (by rw [hby]; omega) (by omega)
  simp only [execOp, hop, hl, hc]
  simp [this, hsz, Value.cells, Result.andThen]
/-- 'string(b)' of bytes that were just made. -/
theorem wpList_string {P : Program} {ops : Array Oper} {rest : List Oper} {o : Oper} {ac : Act} {Q : Exit → Act → World → Prop} {w : World} (hg : o.guard = none) (x : Operand) (t d : TypeId)
    (hop : o.op = Op.convert t d x) (e : TypeId) (n : Nat) (ht : P.underlying t = some (.slice e)) (he : P.underlying e = some (.int .u8)) (hd : P.underlying d = some .string)
    (hx : ac.eval x = .slice (some ⟨w.heap.size, 0, none⟩) n n)
    (h : ∀ s : ByteArray, s.size = n → wpList P ops Q rest (ac.put o.dst (.string s)) (w.alloc (.cells (madeCells #[.int .u8 0] n) e))) : wpList P ops Q (o :: rest) ac (w.alloc (.cells (madeCells #[.int .u8 0] n) e)) := by
  refine wpList_run hg ?_ (h (strOfNums (List.replicate n 0)) (by simp [strOfNums_size]))
  have := run_convert_bytes_arg (P := P) (w.alloc (.cells (madeCells #[.int .u8 0] n) e)) t e ht he w.heap.size 0 n n (List.replicate n 0) (by simp) (fun i hi => by
    rw [cell_blk (heap_alloc_new w _)]
    simp [madeCells, hi, Nat.mod_one]) d hd
  simp only [execOp, hop, hx]
  simp [this, Result.andThen]
end PH
