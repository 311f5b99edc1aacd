/-
  Layer 10: a step.
-/
import Derived.Test.YtmkpglabiikdeaaGreatDoorDiskZ
namespace Go.Proofs.YtmkpglabiikdeaaGreatDoor
open Go.RowKit PH

structure St where
  kind : Int
  i : Int
  s : ByteArray
  keep : List Int

/-- A step's value, its slice at a. -/
def St.val (t : St) (a : Option Addr) (c : Nat) : Value := .agg #[.int .i64 t.kind, .int .i64 t.i, .string t.s, .slice a t.keep.length c]

theorem runAppI {E w : World} {L : List HP} {a : Option Addr} {c g : Nat} {zs : List Int} (ty : TypeId) (x : Sat E w (row 3 1 (.slice (some ⟨g, 0, none⟩) 0 0) 0 [] :: L)) (h : SeesI w a zs) (hl : zs.length ≤ 1000) :
    ∃ v' w', (Builtin.append_ #[55, 55] ty #[.slice (some ⟨g, 0, none⟩) 0 0, .slice a zs.length c]).run Tryz.prog w = .ok v' w' ∧ Sat E w' (row 3 1 v' zs.length (zs.map (Value.int .i64)) :: L) := by
  obtain ⟨i, hi, hz, hsz, hby⟩ := info_parts (P := Tryz.prog) (e := 3) (z := .int .i64 0) (size := 1) (bytes := 8) (by kernel_rfl)
  by_cases h0 : zs.length = 0
  · obtain rfl : zs = [] := List.eq_nil_of_length_eq_zero h0
    refine ⟨.slice (some ⟨g, 0, none⟩) 0 0, w, ?_, x⟩
    cases a <;> simp [Builtin.append_, run_underlying Tryz.underlying55, Go.sizeOf, typeInfo, hi, Builtin.lenOf, Builtin.firstCells, loadCells, loadCellsFrom, storeCells]
  · obtain ⟨b, off, rfl, -⟩ := h 0 zs[0] (List.getElem?_eq_getElem (by omega))
    obtain ⟨v', w', hr, h2, -⟩ := x.append (P := Tryz.prog) 55 ty i _ 8 Tryz.underlying55 hi hz hsz hby rfl ⟨b, off, none⟩ zs.length c (zs.map (Value.int .i64)) (by simp) (fun j u hj => by
      have hadd : (⟨b, off, none⟩ : Addr).add j = ⟨b, off + j, none⟩ := by unfold Addr.add; split <;> simp_all
      rw [List.getElem?_map] at hj
      cases hz : zs[j]? with
      | none => rw [hz] at hj; cases hj
      | some z =>
        rw [hz] at hj
        cases hj
        obtain ⟨b', off', e, hc⟩ := h j z hz
        cases e
        rw [hadd]; exact hc) (by simp [Value.oneCell']) (by unfold maxLen; omega) (by omega)
    rw [Nat.zero_add, List.nil_append] at h2
    exact ⟨v', w', hr, h2⟩

theorem wpList_appI {E w : World} {L : List HP} {a : Option Addr} {c g : Nat} {zs : List Int} {ops : Array Oper} {rest : List Oper} {o : Oper} {ac : Act} {Q : Exit → Act → World → Prop} (hgd : o.guard = none) (s p : Operand)
    (ho : o.op = .call { callee := .builtin .append, args := #[s, p], argTypes := #[55, 55] }) (x : Sat E w (row 3 1 (.slice (some ⟨g, 0, none⟩) 0 0) 0 [] :: L)) (h : SeesI w a zs) (hl : zs.length ≤ 1000)
    (hs : ac.eval s = .slice (some ⟨g, 0, none⟩) 0 0) (hp : ac.eval p = .slice a zs.length c)
    (hk : ∀ v' w', Sat E w' (row 3 1 v' zs.length (zs.map (Value.int .i64)) :: L) → wpList Tryz.prog ops Q rest (ac.put o.dst v') w') : wpList Tryz.prog ops Q (o :: rest) ac w := by
  obtain ⟨v', w', hr, hx⟩ := runAppI (c := c) o.type x h hl
  refine wpList_run hgd ?_ (hk _ _ hx)
  simp only [execOp, ho, resolve, invoke, builtin, Sem.run_bind, Sem.run_pure, Result.andThen_ok, List.map_toArray, List.map_cons, List.map_nil, hs, hp, hr]
theorem seesI_own {E w : World} {L : List HP} {zs : List Int} {a : Option Addr} {c : Nat} (x : Sat E w (row 3 1 (.slice a zs.length c) zs.length (zs.map (Value.int .i64)) :: L)) : SeesI w a zs := fun j u hj => by
  obtain ⟨g, cap, e, -, -, -, hsee⟩ := x.rowSees (by have := (List.getElem?_eq_some_iff.1 hj).1; omega)
  cases e
  exact ⟨g, 0, rfl, hsee j _ (by rw [List.getElem?_map, hj]; rfl)⟩

def doD (D : Dk) (t : St) : Dk := if t.kind = 1 then writeD D t.i t.s else if t.kind = 2 then barrierD D else if t.kind = 3 then armD D t.i else if t.kind = 4 then crashD D t.keep else D
def doS (D : Dk) (t : St) : ByteArray := if t.kind = 1 ∨ t.kind = 2 ∨ t.kind = 3 ∨ t.kind = 4 then ByteArray.empty else readS D t.i
def doE (D : Dk) (t : St) : Int := if t.kind = 1 then writeE D t.i t.s else if t.kind = 2 then barrierE D else if t.kind = 3 then aliveE D else if t.kind = 4 then crashE D else thereE D t.i



end Go.Proofs.YtmkpglabiikdeaaGreatDoor

