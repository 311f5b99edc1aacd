/-
  Layer 14: the fixed calls; ImageSectors, walked.
-/
import Derived.Test.YtmkpglabiikdeaaImgR
namespace Go.Proofs.Ytmkpglabiikdeaa
open Go.RowKit PH

/-- All sectors have as many bytes as a sector has. -/
structure Sz (D : Dk) : Prop where
  k : ∀ s ∈ D.kept, s.size = 128
  w : ∀ x ∈ D.wait, x.1.size = 128
theorem Sz.read {D : Dk} (z : Sz D) {i : Nat} (h : i < D.kept.length) : (readV D i).size = 128 := by
  unfold readV lastAt
  cases hf : D.wait.reverse.find? fun x => x.2 == (i : Int) with
  | some x => exact z.w x (List.mem_reverse.1 (List.mem_of_find?_eq_some hf))
  | none =>
    dsimp only
    rw [Int.toNat_natCast, List.getD_eq_getElem?_getD, List.getElem?_eq_getElem h]
    exact z.k _ (List.getElem_mem h)
theorem sz_new (n : Nat) : Sz (newD n) := ⟨fun s hs => by rw [List.eq_of_mem_replicate hs]; exact zeros_size _, fun x hx => (by cases hx)⟩
theorem sz_secL {T : ByteArray} {m : Nat} (hT : T.size = 128 * m) (a : Nat) {k : Nat} (hk : k ≤ m) : ∀ x ∈ secL T a k, x.1.size = 128 := fun x hx => by
  simp only [secL, List.mem_map, List.mem_range] at hx
  obtain ⟨i, hi, rfl⟩ := hx
  exact chunk_size hT (by omega)
theorem Sz.wroteK {D : Dk} (z : Sz D) {T : ByteArray} {m : Nat} (hT : T.size = 128 * m) (a : Nat) {k : Nat} (hk : k ≤ m) : Sz (wroteK D a T k) :=
  ⟨z.k, fun x hx => by
    rcases List.mem_append.1 hx with h | h
    · exact z.w x h
    · exact sz_secL hT a hk x h⟩
theorem imgRd_img {D : Dk} {a : Nat} {s : ByteArray} {c : Int} (h : s.size ≤ 1048576) (hc : secs s.size ≤ c) (hf : ∀ i : Nat, i < secs s.size → readV D ((a + i : Nat) : Int) = chunk (imgB s) i) : imgRd D a c = (s, 0) := by
  unfold imgRd
  rw [textOf_img h hc (fun i hi => by rw [← hf i hi]; congr 1)]
theorem wroteK_alive {D : Dk} (al : aliveE D = 0) (a : Nat) (T : ByteArray) (k : Nat) : aliveE (wroteK D a T k) = 0 := (alive_of (D := D) rfl rfl).trans al
theorem wroteK_fuse {D : Dk} (fu : D.fuse = -1) (a : Nat) (T : ByteArray) (k : Nat) : (wroteK D a T k).fuse = -1 := by
  show max (D.fuse - k) (-1) = -1
  omega
theorem area_ok {D : Dk} {a c : Nat} (h1 : 1 ≤ c) (h2 : a + c ≤ D.kept.length) : areaE D a c = 0 := by
  unfold areaE
  rw [if_neg (by omega), if_neg (by omega)]
theorem newD_alive {n : Nat} (h : 1 ≤ n) : aliveE (newD n) = 0 := by
  unfold aliveE madeB
  rw [decide_eq_true (by show 0 < (List.replicate n (zeros 128)).length; rw [List.length_replicate]; omega), if_pos rfl]
  rfl
theorem newD_len (n : Nat) : (newD n).kept.length = n := List.length_replicate

def abc : ByteArray := ⟨#[97, 98, 99]⟩
theorem abc_size : abc.size = 3 := rfl
theorem known14 : ∃ D1, imgW (newD 3) (1 : Nat) (imgB abc) (secs abc.size) = (0, D1) ∧ OkD D1 ∧ aliveE D1 = 0 ∧ areaE D1 (1 : Nat) (2 : Nat) = 0 ∧ (∀ i : Nat, i < D1.kept.length → (readV D1 i).size = 128) ∧ imgRd D1 (1 : Nat) (2 : Nat) = (abc, 0) := by
  have hs : secs abc.size = 1 := rfl
  have al := newD_alive (n := 3) (by omega)
  have hT := imgB_size abc
  have hk := newD_len 3
  have e := imgW_live al (by decide : -1 ≤ (newD 3).fuse) (a := 1) hT (by rw [hk, hs]; omega) (secs abc.size) (Nat.le_refl _) (.inl rfl)
  have ok := imgW_ok (newD_ok (n := 3) (by omega)) (1 : Nat) (imgB abc) (secs abc.size) (by decide) (by decide)
  rw [e] at ok
  refine ⟨_, e, ok.1, wroteK_alive al _ _ _, area_ok (by omega) (by show 1 + 2 ≤ (newD 3).kept.length; rw [hk]; omega), fun i hi => (sz_new 3).wroteK hT 1 (Nat.le_refl _) |>.read hi, ?_⟩
  exact imgRd_img (by decide) (by rw [hs]; decide) (fun i hi => readV_in (w := (newD 3).wait) rfl hi)

set_option maxRecDepth 100000 in
set_option maxHeartbeats 1600000 in
theorem imgKnown_ok (W : World) : Calls Try.prog 43 #[] W fun e w' => e = .returned (.bool true) ∧ Below W.heap.size W w' := by
  obtain ⟨D1, e1, ok1, al1, ar1, h128, rd1⟩ := known14
  have hw := fun {b : Nat} {E w : World} {L : List HP} (x : Sat E w (isDisk b (newD 3) :: L)) => imgWrite_go x (newD_ok (n := 3) (by omega)) (by decide) (by decide) ((1 : Nat) : Int) ((2 : Nat) : Int) abc (by decide) (area_ok (by omega) (by rw [newD_len]; omega)) (by decide)
  have hr := fun {b : Nat} {E w : World} {L : List HP} (x : Sat E w (isDisk b D1 :: L)) => imgRead_ok x ok1 al1 ((1 : Nat) : Int) ((2 : Nat) : Int) ar1 h128
  rw [rd1] at hr
  rw [e1] at hw
  have HN := Lib.hid (new_ok (n := 3) (Sat.start W) (by omega) (by omega))
  have HW : Hid (∀ {b : Nat} {E w : World} {L : List HP} (x : Sat E w (isDisk b (newD 3) :: L)), Calls Try.prog 47 #[.pointer (some ⟨b, 0, none⟩), .int .i64 1, .int .i64 2, .string ⟨#[97, 98, 99]⟩] w fun e w' => e = .returned (.int .i64 0) ∧ Sat E w' (isDisk b D1 :: L)) := Lib.hid hw
  have HR : Hid (∀ {b : Nat} {E w : World} {L : List HP} (x : Sat E w (isDisk b D1 :: L)), Calls Try.prog 44 #[.pointer (some ⟨b, 0, none⟩), .int .i64 1, .int .i64 2] w fun e w' => e = .returned (.tuple #[.string ⟨#[97, 98, 99]⟩, .int .i64 0]) ∧ Sat E w' (isDisk b D1 :: L)) := Lib.hid hr
  obtain ⟨D0, hD0⟩ : ∃ D, newD 3 = D := ⟨_, rfl⟩
  rw [hD0] at HN HW
  clear hD0 hw hr e1 ok1 al1 ar1 h128 rd1
  have s1 : sectN 120 = 1 := by decide
  have s2 : sectN 121 = 2 := by decide
  go_enter Try.func43, Try.ntmps43
  go_wp2_with (first
    | (go_at_call 28; refine HN.out.mono ?_; rintro e w1 ⟨b, rfl, hx1⟩; have HX1 := Lib.hid hx1; clear hx1 HN)
    | (go_at_call 47; with_reducible refine (HW.out HX1.out).mono ?_; rintro e w2 ⟨rfl, hx2⟩; have HX2 := Lib.hid hx2; clear hx2 HX1)
    | (go_at_call 44; with_reducible refine (HR.out HX2.out).mono ?_; rintro e w3 ⟨rfl, hx3⟩; have HX3 := Lib.hid hx3; clear hx3 HX2)
    | (go_at_call 45; with_reducible refine (sectors_ok 120 _).mono ?_; rintro e w4 ⟨rfl, rfl⟩; rw [s1])
    | (go_at_call 45; with_reducible refine (sectors_ok 121 _).mono ?_; rintro e w5 ⟨rfl, rfl⟩; rw [s2]))
  go_ret
  exact ⟨rfl, HX3.out.tail.below⟩
end Go.Proofs.Ytmkpglabiikdeaa
