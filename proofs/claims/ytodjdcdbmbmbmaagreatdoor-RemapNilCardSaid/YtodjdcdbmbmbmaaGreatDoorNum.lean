/-
  Numbers in bytes, the highest first; texts as lists of bytes. Plain laws, no program in sight.
-/
import Derived.Test.YtodjdcdbmbmbmaaGreatDoorSum
namespace PH

/-- The text of bytes. -/
def bs (l : List Nat) : ByteArray := ⟨(l.map UInt8.ofNat).toArray⟩
def okBytes (l : List Nat) : Prop := ∀ c ∈ l, c < 256
theorem bs_append (l m : List Nat) : bs (l ++ m) = bs l ++ bs m := by
  apply ByteArray.ext
  simp [bs]
theorem bs_size (l : List Nat) : (bs l).size = l.length := by simp [bs, ByteArray.size]
theorem bs_nil : bs [] = ByteArray.empty := rfl
theorem byt_bs {l : List Nat} (h : okBytes l) (i : Nat) : byt (bs l) i = l.getD i 0 := by
  unfold byt
  by_cases hi : i < l.length
  · rw [dif_pos (by rw [bs_size]; exact hi)]
    have h2 : l[i] < 256 := h _ (List.getElem_mem hi)
    have h3 : (bs l)[i]'(by rw [bs_size]; exact hi) = UInt8.ofNat l[i] := by
      show (bs l).data[i]'_ = _
      simp [bs]
    rw [h3, List.getD_eq_getElem?_getD, List.getElem?_eq_getElem hi, UInt8.toNat_ofNat', Nat.mod_eq_of_lt h2]
    rfl
  · rw [dif_neg (by rw [bs_size]; exact hi), List.getD_eq_getElem?_getD, List.getElem?_eq_none (by omega)]
    rfl
/-- A text's bytes. -/
def lst (s : ByteArray) : List Nat := s.data.toList.map UInt8.toNat
theorem lst_len (s : ByteArray) : (lst s).length = s.size := by unfold lst; rw [List.length_map]; rfl
theorem lst_ok (s : ByteArray) : okBytes (lst s) := fun c hc => by
  obtain ⟨x, _, rfl⟩ := List.mem_map.1 hc
  exact x.toNat_lt
theorem bs_lst (s : ByteArray) : bs (lst s) = s := by
  apply ByteArray.ext
  unfold bs lst
  rw [List.map_map, show (UInt8.ofNat ∘ UInt8.toNat) = id from funext fun x => UInt8.ofNat_toNat]
  simp
theorem lst_bs {l : List Nat} (h : okBytes l) : lst (bs l) = l := by
  unfold lst bs
  simp only [List.map_map]
  apply List.ext_getElem?
  intro i
  rw [List.getElem?_map]
  cases hi : l[i]? with
  | none => rfl
  | some c =>
    have : c < 256 := h c (List.mem_of_getElem? hi)
    simp [Nat.mod_eq_of_lt this]
theorem lst_get (s : ByteArray) {i : Nat} (h : i < s.size) : (lst s)[i]? = some (byt s i) := by
  unfold byt
  rw [dif_pos h]
  simp [lst]
  exact ⟨s.data[i], by simp [Array.getElem?_eq_getElem (show i < s.data.size from h)], rfl⟩
theorem lst_getD (s : ByteArray) (i : Nat) : (lst s).getD i 0 = byt s i := by
  by_cases h : i < s.size
  · rw [List.getD_eq_getElem?_getD, lst_get s h]; rfl
  · rw [List.getD_eq_getElem?_getD, List.getElem?_eq_none (by rw [lst_len]; omega)]
    unfold byt; rw [dif_neg h]; rfl
theorem lst_append (s t : ByteArray) : lst (s ++ t) = lst s ++ lst t := by simp [lst]
theorem lst_inj {s t : ByteArray} (h : lst s = lst t) : s = t := by rw [← bs_lst s, ← bs_lst t, h]
theorem bs_inj {l m : List Nat} (hl : okBytes l) (hm : okBytes m) (h : bs l = bs m) : l = m := by rw [← lst_bs hl, ← lst_bs hm, h]
theorem okBytes.append {l m : List Nat} (h : okBytes l) (k : okBytes m) : okBytes (l ++ m) := fun c hc => by
  rcases List.mem_append.1 hc with h' | h'
  · exact h c h'
  · exact k c h'

/-- A number's bytes, the highest first. -/
def numL (n : Nat) : Nat → List Nat
  | 0 => []
  | k + 1 => n / 256 ^ k % 256 :: numL n k
theorem numL_len (n : Nat) : ∀ k, (numL n k).length = k
  | 0 => rfl
  | k + 1 => by rw [numL, List.length_cons, numL_len n k]
theorem numL_ok (n : Nat) : ∀ k, okBytes (numL n k)
  | 0 => fun c hc => by simp [numL] at hc
  | k + 1 => fun c hc => by
    rw [numL] at hc
    rcases List.mem_cons.1 hc with rfl | h
    · exact Nat.mod_lt _ (by omega)
    · exact numL_ok n k c h
/-- The number that bytes say, the highest first. -/
def valL (l : List Nat) : Nat := l.foldl (fun a c => 256 * a + c) 0
theorem valL_snoc (l : List Nat) (c : Nat) : valL (l ++ [c]) = 256 * valL l + c := by simp [valL]
theorem foldl_val (l : List Nat) : ∀ a, l.foldl (fun a c => 256 * a + c) a = a * 256 ^ l.length + valL l := by
  induction l with
  | nil => intro a; simp [valL]
  | cons c l ih =>
    intro a
    have h1 : valL (c :: l) = l.foldl (fun a c => 256 * a + c) (256 * 0 + c) := rfl
    rw [h1, List.foldl_cons, ih, ih, List.length_cons, Nat.pow_succ]
    rw [Nat.add_mul, Nat.add_mul, Nat.mul_zero, Nat.zero_mul, Nat.zero_add, Nat.add_assoc]
    congr 1
    rw [Nat.mul_comm 256 a, Nat.mul_assoc, Nat.mul_comm 256]
theorem valL_cons (c : Nat) (l : List Nat) : valL (c :: l) = c * 256 ^ l.length + valL l := by
  have h1 : valL (c :: l) = l.foldl (fun a c => 256 * a + c) (256 * 0 + c) := rfl
  rw [h1, foldl_val]; simp
theorem valL_lt : ∀ {l : List Nat}, okBytes l → valL l < 256 ^ l.length
  | [], _ => by simp [valL]
  | c :: l, h => by
    have h1 : c < 256 := h c (by simp)
    have h2 := valL_lt (l := l) fun x hx => h x (by simp [hx])
    rw [valL_cons, List.length_cons, Nat.pow_succ]
    have : c * 256 ^ l.length ≤ 255 * 256 ^ l.length := Nat.mul_le_mul_right _ (by omega)
    omega
theorem valL_numL (n : Nat) : ∀ k, valL (numL n k) = n % 256 ^ k
  | 0 => by simp [numL, valL, Nat.mod_one]
  | k + 1 => by
    rw [numL, valL_cons, numL_len, valL_numL n k, Nat.pow_succ, Nat.mod_mul]
    rw [Nat.mul_comm, Nat.add_comm]
theorem numL_valL : ∀ {l : List Nat}, okBytes l → numL (valL l) l.length = l
  | [], _ => rfl
  | c :: l, h => by
    have h1 : c < 256 := h c (by simp)
    have h0 : okBytes l := fun x hx => h x (by simp [hx])
    have h2 := valL_lt h0
    have hp : 0 < 256 ^ l.length := Nat.pow_pos (by omega)
    rw [List.length_cons, numL, valL_cons]
    congr 1
    · rw [Nat.add_comm, Nat.add_mul_div_right _ _ hp, Nat.div_eq_of_lt h2, Nat.zero_add, Nat.mod_eq_of_lt h1]
    · have key : ∀ (k : Nat), k ≤ l.length → numL (c * 256 ^ l.length + valL l) k = numL (valL l) k := by
        intro k
        induction k with
        | zero => intro _; rfl
        | succ k ih =>
          intro hk
          rw [numL, numL, ih (by omega)]
          congr 1
          have e : c * 256 ^ l.length = 256 ^ k * (256 * (c * 256 ^ (l.length - k - 1))) := by
            have : 256 ^ l.length = 256 ^ k * (256 * 256 ^ (l.length - k - 1)) := by
              rw [← Nat.pow_succ', ← Nat.pow_add]; congr 1; omega
            rw [this]
            rw [Nat.mul_left_comm c, Nat.mul_left_comm c]
          rw [e, Nat.add_comm, Nat.add_mul_div_left _ _ (Nat.pow_pos (by omega)), Nat.add_mul_mod_self_left]
      rw [key _ (Nat.le_refl _)]
      exact numL_valL h0
end PH
