/-
  What a handle's bytes say (plain), and rows of sixteen bytes compared.
-/
import Derived.Stop.BytesEq
import Derived.Test.YtodjdcdbmbmbmaaGreatDoorRdAt
namespace Go.Proofs.YtodjdcdbmbmbmaaGreatDoor
open Go.RowKit PH

def okH (s : ByteArray) : Prop := (byt s 0 = 1 ∨ byt s 0 = 2) ∧ byt s 1 = 0 ∧ byt s 2 = 0 ∧ byt s 3 = 0 ∧ fld s 8 8 ≤ 9223372036854775807
instance (s : ByteArray) : Decidable (okH s) := by unfold okH; infer_instance
theorem fld_lt (S : ByteArray) (p k : Nat) : fld S p k < 256 ^ k := numAt_lt _ k
theorem lst_extract (s : ByteArray) (a b : Nat) : lst (s.extract a b) = ((lst s).drop a).take (b - a) := by
  unfold lst
  rw [ByteArray.data_extract, Array.toList_extract]
  show List.map _ (List.take (b - a) (List.drop a _)) = _
  rw [List.map_take, List.map_drop]
theorem lst_left (S : ByteArray) (p : Nat) : lst (left S p) = (lst S).drop p := by
  unfold left
  rw [lst_extract, List.take_of_length_le]
  rw [List.length_drop, lst_len]
  omega
theorem fld_val {S : ByteArray} {p k : Nat} (h : p + k ≤ S.size) : fld S p k = valL (((lst S).drop p).take k) := by
  unfold fld
  rw [numAt_val _ _ (by rw [left_size]; omega)]
  congr 2
  exact lst_left S p
theorem fld_kind (s : ByteArray) : fld s 0 4 / 16777216 = byt s 0 := by
  have h : byt s 0 * 256 ^ 3 ≤ numAt s 4 ∧ numAt s 4 < (byt s 0 + 1) * 256 ^ 3 := numAt_top s 3
  unfold fld
  rw [left_all]
  omega
theorem fld_num {S : ByteArray} {p k : Nat} (h : p + k ≤ S.size) : numL (fld S p k) k = ((lst S).drop p).take k := by
  have hl : (((lst S).drop p).take k).length = k := by rw [List.length_take, List.length_drop, lst_len]; omega
  have ho : okBytes (((lst S).drop p).take k) := fun c hc => lst_ok S c (List.mem_of_mem_drop (List.mem_of_mem_take hc))
  rw [fld_val h]
  have := numL_valL ho
  rwa [hl] at this
theorem hL_lst {s : ByteArray} (h : s.size = 16) : hL (byt s 0) (fld s 4 4) (fld s 8 8) = lst s ↔ byt s 1 = 0 ∧ byt s 2 = 0 ∧ byt s 3 = 0 := by
  unfold hL
  rw [fld_num (by omega), fld_num (by omega), ← lst_getD s 0, ← lst_getD s 1, ← lst_getD s 2, ← lst_getD s 3]
  have hl : (lst s).length = 16 := by rw [lst_len, h]
  generalize lst s = l at *
  match l, hl with
  | [a0, a1, a2, a3, a4, a5, a6, a7, a8, a9, a10, a11, a12, a13, a14, a15], _ =>
    simp
    omega
theorem hL_bs {s : ByteArray} (h : s.size = 16) : bs (hL (byt s 0) (fld s 4 4) (fld s 8 8)) = s ↔ byt s 1 = 0 ∧ byt s 2 = 0 ∧ byt s 3 = 0 := by
  rw [← hL_lst h]
  constructor
  · intro e
    have := congrArg lst e
    rwa [lst_bs (hL_ok _ _ _ (byt_lt s 0))] at this
  · intro e
    rw [e, bs_lst]
theorem cellsB_bytes (T : ByteArray) : cellsB (lst T) = T.data.toList.map Extern.Stop.cell := by
  unfold cellsB lst
  rw [List.map_map]
  rfl
theorem neq16 {S T : ByteArray} (hS : S.size = 16) (hT : T.size = 16) (w : World) : (binOp .neq 98 (.agg (cellsB (lst S)).toArray) (.agg (cellsB (lst T)).toArray)).run Tryz.prog w = .ok (.bool (decide (S ≠ T))) w := by
  rw [run_neq_struct, cellsB_bytes, cellsB_bytes, run_equalIn_bytes w 9998 98 5 16 Tryz.underlying98 Tryz.underlying5 (fun w => by go_simp) _ _ (by rw [Array.length_toList]; exact hS) (by rw [Array.length_toList]; exact hT)]
  show Result.ok _ _ = _
  congr 2
  by_cases h : S = T
  · subst h; simp
  · have : ¬ S.data = T.data := fun e => h (ByteArray.ext e)
    simp [h, this]
theorem op_neq {a : Act} {o : Oper} {x y : Operand} {C C2 : Array Value} {B : Bool} (ho : o.op = .binOp .neq 98 x y 98) (hx : a.eval x = .agg C) (hy : a.eval y = .agg C2)
    (hne : ∀ w, (binOp .neq 98 (.agg C) (.agg C2)).run Tryz.prog w = .ok (.bool B) w) (w : World) : (execOp a.eval o).run Tryz.prog w = .ok (.value (.bool B)) w := by
  have hm : Tryz.prog.eqGuardType Tryz.prog.depth 98 = false := by kernel_rfl
  unfold execOp
  simp only [ho, hx, hy, Sem.run_bind, run_eqGuard_agg w .neq 98 x y C C2 hm, Result.andThen_ok, hne, Sem.run_pure]
theorem info16 : (Tryz.prog.info? 98).map (·.size) = some 16 := by kernel_rfl
theorem arrayAt16 (a : Addr) (c : Nat) (w : World) : (Instr.arrayAt 98 (.slice (some a) 16 c)).run Tryz.prog w = .ok (.pointer (some a)) w := by
  simp [Instr.arrayAt, run_underlying Tryz.underlying98]
theorem bytesAt_range {E w : World} {L : List HP} {g : Nat} {T : ByteArray} (x : Sat E w (bytesAt g T :: L)) : w.rangeAt g 0 (cellsB (lst T)) := fun j v hj => by
  have hl := (List.getElem?_eq_some_iff.1 hj).1
  rw [cellsB_len, lst_len] at hl
  rw [Nat.zero_add, bytesAt_get x hl, ← hj]
  simp [cellsB, lst_get T hl]
end Go.Proofs.YtodjdcdbmbmbmaaGreatDoor
namespace PH
open Go
theorem branch_loud {P : Program} {md : Region.Mode} {l : List Oper} {Q : Exit → Act → World → Prop} {p : World → Prop} {i : Nat} {plan : List (Nat × Bool)} {a : Act} {w : World} {o : Oper} (ho : l[i]? = some o) (hw : Region.wanted o (yielded l.toArray a.tmps) = true)
    (h : ∀ K : Act → World → Prop, (∀ a' w' (p' : World → Prop), p' w' → (∀ w, p' w → p w) → wpPlanL P md l.toArray Q [(l.length, p')] (Q .normal) (planOps l plan) a' w' → K a' w') → o.wp P a w K Q) : wpBranch P md l Q p i plan a w :=
  ⟨o, ho, hw, h _ fun _ _ p' h1 h2 h3 => ⟨p', h1, h2, h3⟩⟩
end PH
