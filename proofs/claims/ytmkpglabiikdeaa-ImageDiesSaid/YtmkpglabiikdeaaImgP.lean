/-
  Texts on sectors: plain laws, no program in sight.
-/
import Derived.Test.YtmkpglabiikdeaaHeadD
namespace Go.Proofs.Ytmkpglabiikdeaa
open Go.RowKit PH

/-- How many sectors a text of so many bytes takes. -/
def sectN (n : Int) : Int := if n < 0 ∨ 1048576 < n then 0 else (n + 135) / 128
def secs (n : Nat) : Nat := (n + 135) / 128
theorem sectN_yes {n : Nat} (h : n ≤ 1048576) : sectN n = secs n := by
  unfold sectN secs
  rw [if_neg (by omega)]
  omega
theorem sectN_no {n : Nat} (h : 1048576 < n) : sectN n = 0 := by
  unfold sectN
  rw [if_pos (by omega)]
/-- A text's bytes, with what is ahead of it. -/
def imgL (s : ByteArray) : List Nat := numL s.size 4 ++ numL (sumOf s) 4 ++ lst s
/-- Up to the end of a sector. -/
def imgB (s : ByteArray) : ByteArray := bs (imgL s) ++ zeros (128 * secs s.size - (8 + s.size))
theorem imgL_len (s : ByteArray) : (imgL s).length = 8 + s.size := by simp [imgL, numL_len, lst_len]; omega
theorem imgL_ok (s : ByteArray) : okBytes (imgL s) := ((numL_ok _ _).append (numL_ok _ _)).append (lst_ok _)
theorem secs_fit (n : Nat) : 8 + n ≤ 128 * secs n := by unfold secs; omega
theorem imgB_size (s : ByteArray) : (imgB s).size = 128 * secs s.size := by
  unfold imgB
  rw [ByteArray.size_append, bs_size, zeros_size, imgL_len]
  have := secs_fit s.size
  omega
theorem imgB_lst (s : ByteArray) : lst (imgB s) = numL s.size 4 ++ (numL (sumOf s) 4 ++ (lst s ++ List.replicate (128 * secs s.size - (8 + s.size)) 0)) := by
  unfold imgB
  rw [lst_append, lst_bs (imgL_ok s)]
  unfold imgL
  simp [lst, zeros]
theorem secs_pos (n : Nat) : 1 ≤ secs n := by unfold secs; omega
theorem imgB_fld {s : ByteArray} (h : s.size ≤ 1048576) : fld (imgB s) 0 4 = s.size := by
  rw [fld_val (by rw [imgB_size]; have := secs_pos s.size; omega), imgB_lst, List.drop_zero, take_num, valL_numL]
  omega
theorem imgB_text (s : ByteArray) : (imgB s).extract 8 (8 + s.size) = s := by
  apply lst_inj
  rw [lst_extract, imgB_lst, drop_num _ _ _ _ (by omega), drop_num _ _ _ _ (by omega), List.drop_zero, List.take_append_of_le_length (by rw [lst_len]; omega), List.take_of_length_le (by rw [lst_len]; omega)]
/-- A text's sector. -/
def chunk (T : ByteArray) (i : Nat) : ByteArray := T.extract (128 * i) (128 * i + 128)
theorem chunk_size {T : ByteArray} {i n : Nat} (h : T.size = 128 * n) (hi : i < n) : (chunk T i).size = 128 := by
  unfold chunk
  rw [ByteArray.size_extract]
  omega
/-- Texts in a row. -/
def catN (f : Nat → ByteArray) : Nat → ByteArray
  | 0 => ByteArray.empty
  | n + 1 => catN f n ++ f n
theorem catN_same {f g : Nat → ByteArray} : ∀ n, (∀ i, i < n → f i = g i) → catN f n = catN g n
  | 0, _ => rfl
  | n + 1, h => by unfold catN; rw [catN_same n (fun i hi => h i (by omega)), h n (by omega)]
theorem catN_size {f : Nat → ByteArray} : ∀ n, (∀ i, i < n → (f i).size = 128) → (catN f n).size = 128 * n
  | 0, _ => rfl
  | n + 1, h => by unfold catN; rw [ByteArray.size_append, catN_size n (fun i hi => h i (by omega)), h n (by omega)]; omega
theorem catN_chunk (T : ByteArray) {m : Nat} (h : T.size = 128 * m) : ∀ n, n ≤ m → catN (chunk T) n = T.extract 0 (128 * n)
  | 0, _ => by apply lst_inj; rw [lst_extract]; simp [catN, lst]
  | n + 1, hn => by
    unfold catN
    rw [catN_chunk T h n (by omega)]
    apply lst_inj
    unfold chunk
    rw [lst_append, lst_extract, lst_extract, lst_extract, List.drop_zero, show 128 * (n + 1) - 0 = (128 * n - 0) + (128 * n + 128 - 128 * n) by omega, List.take_add, Nat.sub_zero]
theorem catN_all {T : ByteArray} {m : Nat} (h : T.size = 128 * m) : catN (chunk T) m = T := by
  rw [catN_chunk T h m (Nat.le_refl _), ← h]
  exact ByteArray.extract_zero_size
theorem pad_full {s : ByteArray} (h : s.size = 128) : pad s = s := by
  unfold pad
  rw [h]
  apply ByteArray.ext
  simp [zeros]
theorem fld_chunk {T : ByteArray} {m : Nat} (h : T.size = 128 * m) (hm : 1 ≤ m) : fld (chunk T 0) 0 4 = fld T 0 4 := by
  rw [fld_val (by rw [chunk_size h (by omega)]; omega), fld_val (by omega)]
  unfold chunk
  rw [lst_extract, List.drop_zero, Nat.mul_zero, List.drop_zero, List.take_take]
  rfl
/-- The text that sectors have, or none: the first says how many there are. -/
def textOf (f : Nat → ByteArray) (count : Int) : Option ByteArray :=
  if sectN (fld (f 0) 0 4) = 0 ∨ count < sectN (fld (f 0) 0 4) then none
  else if imgB ((catN f (sectN (fld (f 0) 0 4)).toNat).extract 8 (8 + fld (f 0) 0 4)) = catN f (sectN (fld (f 0) 0 4)).toNat then some ((catN f (sectN (fld (f 0) 0 4)).toNat).extract 8 (8 + fld (f 0) 0 4)) else none
theorem textOf_img {f : Nat → ByteArray} {s : ByteArray} {count : Int} (h : s.size ≤ 1048576) (hc : secs s.size ≤ count) (hf : ∀ i, i < secs s.size → f i = chunk (imgB s) i) : textOf f count = some s := by
  have h0 : fld (f 0) 0 4 = s.size := by
    rw [hf 0 (secs_pos _), fld_chunk (imgB_size s) (secs_pos _), imgB_fld h]
  unfold textOf
  have hcat : catN f (secs s.size) = imgB s := by rw [catN_same _ hf, catN_all (imgB_size s)]
  have hp := secs_pos s.size
  rw [h0, sectN_yes h, if_neg (by omega), Int.toNat_natCast, hcat, imgB_text, if_pos rfl]

/-- What Write leaves behind k sectors: the error, the disk. -/
def imgW (D : Dk) (from_ : Int) (T : ByteArray) : Nat → Int × Dk
  | 0 => (0, D)
  | k + 1 => if (imgW D from_ T k).1 = 0 then (writeE (imgW D from_ T k).2 (from_ + k) (chunk T k), writeD (imgW D from_ T k).2 (from_ + k) (chunk T k)) else imgW D from_ T k
/-- Why nothing is done with an area. -/
def areaE (D : Dk) (from_ count : Int) : Int := if D.kept.length = 0 then 1 else if from_ < 0 ∨ count < 1 ∨ (D.kept.length : Int) < count ∨ (D.kept.length : Int) - count < from_ then 3 else 0
/-- What Write answers, and leaves. -/
def imgWr (D : Dk) (from_ count : Int) (s : ByteArray) : Int × Dk :=
  if areaE D from_ count ≠ 0 then (areaE D from_ count, D)
  else if sectN s.size = 0 ∨ count < sectN s.size then (31, D)
  else imgW D from_ (imgB s) (secs s.size)
/-- What Read answers on a disk that lives. -/
def imgRd (D : Dk) (from_ count : Int) : ByteArray × Int := match textOf (fun i => readV D (from_ + i)) count with
  | some s => (s, 0)
  | none => (ByteArray.empty, 14)
end Go.Proofs.Ytmkpglabiikdeaa
