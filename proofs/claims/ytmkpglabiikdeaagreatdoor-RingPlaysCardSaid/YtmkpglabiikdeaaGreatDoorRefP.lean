/-
  Layer 10, plain: what the document's disk computes step by step is what the disk's contracts say.
-/
import Derived.Test.YtmkpglabiikdeaaGreatDoorDiskS
namespace Go.Proofs.YtmkpglabiikdeaaGreatDoor
open Go.RowKit PH

theorem lastAt_snoc (l : List (ByteArray × Int)) (x : ByteArray × Int) (i : Int) : lastAt (l ++ [x]) i = if x.2 == i then some x else lastAt l i := by
  unfold lastAt
  rw [List.reverse_append, List.reverse_cons, List.reverse_nil, List.nil_append, List.singleton_append, List.find?_cons]
  split <;> simp_all
/-- What a sector has when the first k waiting writes have been looked at. -/
def readF (D : Dk) (i : Int) (k : Nat) : ByteArray := match lastAt (D.wait.take k) i with | some x => x.1 | none => D.kept.getD i.toNat ByteArray.empty
theorem readF_zero (D : Dk) (i : Int) : readF D i 0 = D.kept.getD i.toNat ByteArray.empty := by simp [readF, lastAt]
theorem readF_all (D : Dk) (i : Int) : readF D i D.wait.length = readV D i := by
  unfold readF readV
  rw [List.take_length]
  cases lastAt D.wait i <;> rfl
theorem readF_yes {D : Dk} {i : Int} {k : Nat} {x : ByteArray × Int} (h : D.wait[k]? = some x) (hx : x.2 = i) : readF D i (k + 1) = x.1 := by
  unfold readF
  rw [List.take_add_one, h]
  simp only [Option.toList]
  rw [lastAt_snoc, if_pos (by simp [hx])]
theorem readF_no {D : Dk} {i : Int} {k : Nat} {x : ByteArray × Int} (h : D.wait[k]? = some x) (hx : ¬ x.2 = i) : readF D i (k + 1) = readF D i k := by
  unfold readF
  rw [List.take_add_one, h]
  simp only [Option.toList]
  rw [lastAt_snoc, if_neg (by simp [hx])]

/-- The inner loop of the document's Crash: the first j of what is to be kept have been looked at. -/
def keepJ (kept : List ByteArray) (x : ByteArray × Int) (zs : List Int) (k j : Nat) : List ByteArray := if (k : Int) ∈ zs.take j then kept.set x.2.toNat x.1 else kept
theorem keepJ_zero (kept : List ByteArray) (x : ByteArray × Int) (zs : List Int) (k : Nat) : keepJ kept x zs k 0 = kept := by simp [keepJ]
theorem keepJ_len (kept : List ByteArray) (x : ByteArray × Int) (zs : List Int) (k j : Nat) : (keepJ kept x zs k j).length = kept.length := by unfold keepJ; split <;> simp
theorem take_snoc {zs : List Int} {j : Nat} {z : Int} (h : zs[j]? = some z) : zs.take (j + 1) = zs.take j ++ [z] := by
  rw [List.take_add_one, h]; rfl
theorem keepJ_yes {kept : List ByteArray} {x : ByteArray × Int} {zs : List Int} {k j : Nat} (h : zs[j]? = some (k : Int)) : keepJ kept x zs k (j + 1) = (keepJ kept x zs k j).set x.2.toNat x.1 := by
  unfold keepJ
  rw [take_snoc h, if_pos (List.mem_append_right _ (List.mem_singleton.2 rfl))]
  by_cases hm : (k : Int) ∈ zs.take j
  · rw [if_pos hm, List.set_set]
  · rw [if_neg hm]
theorem keepJ_no {kept : List ByteArray} {x : ByteArray × Int} {zs : List Int} {k j : Nat} {z : Int} (h : zs[j]? = some z) (hz : ¬ z = (k : Int)) : keepJ kept x zs k (j + 1) = keepJ kept x zs k j := by
  unfold keepJ
  rw [take_snoc h]
  have e : ((k : Int) ∈ zs.take j ++ [z]) = ((k : Int) ∈ zs.take j) := by
    rw [List.mem_append, List.mem_singleton]
    exact propext ⟨fun h => h.elim id (fun e => absurd e.symm hz), .inl⟩
  by_cases hm : (k : Int) ∈ zs.take j
  · rw [if_pos hm, if_pos (by rw [e]; exact hm)]
  · rw [if_neg hm, if_neg (by rw [e]; exact hm)]
theorem keepJ_all {D : Dk} {zs : List Int} {k : Nat} {x : ByteArray × Int} (h : D.wait[k]? = some x) : keepJ (keepK (inKeep zs) D.kept D.wait k) x zs k zs.length = keepK (inKeep zs) D.kept D.wait (k + 1) := by
  unfold keepJ
  rw [List.take_length]
  by_cases hp : (k : Int) ∈ zs
  · rw [keepK_yes h (by simp [inKeep, hp]), if_pos hp]
  · rw [keepK_no h (by simp [inKeep, hp]), if_neg hp]

/-- A sector behind 'keep' has what was kept, or what a write said. -/
theorem keepK_get (pick : Nat → Bool) (kept : List ByteArray) (wait : List (ByteArray × Int)) (c : Nat) : ∀ n, (keepK pick kept wait n)[c]? = kept[c]? ∨ ∃ x ∈ wait, x.2.toNat = c ∧ (keepK pick kept wait n)[c]? = some x.1
  | 0 => .inl rfl
  | n + 1 => by
    have ih := keepK_get pick kept wait c n
    cases h : wait[n]? with
    | none => unfold keepK; rw [h]; exact ih
    | some x =>
      cases hp : pick n with
      | false => rw [keepK_no h hp]; exact ih
      | true =>
        rw [keepK_yes h hp, List.getElem?_set]
        split
        · rename_i e
          split
          · exact .inr ⟨x, List.mem_of_getElem? h, e, rfl⟩
          · rename_i hl
            left
            rw [List.getElem?_eq_none]
            rw [keepK_len] at hl
            omega
        · exact ih
theorem keepK_none (kept : List ByteArray) (wait : List (ByteArray × Int)) : ∀ n, keepK (inKeep []) kept wait n = kept
  | 0 => rfl
  | n + 1 => by
    cases h : wait[n]? with
    | none => unfold keepK; rw [h]; exact keepK_none kept wait n
    | some x => rw [keepK_no h rfl]; exact keepK_none kept wait n
end Go.Proofs.YtmkpglabiikdeaaGreatDoor

