/-
  posthouse/disk.Disk.Write.
-/
import Derived.Test.YtmkpglabiikdeaaGreatDoorDisk
namespace Go.Proofs.YtmkpglabiikdeaaGreatDoor
open Go.RowKit PH

def zeros (n : Nat) : ByteArray := ⟨Array.replicate n 0⟩
theorem zeros_size (n : Nat) : (zeros n).size = n := by simp [zeros, ByteArray.size]
/-- A sector of noughts, with a text ahead. -/
def pad (s : ByteArray) : ByteArray := s ++ zeros (128 - s.size)

theorem repeatL_zero : ∀ n, Lib.repeatL (⟨#[0]⟩ : ByteArray).data.toList n = (Array.replicate n (0 : UInt8)).toList
  | 0 => rfl
  | n + 1 => by rw [Lib.repeatL, repeatL_zero n]; simp [List.replicate_succ]
theorem repeat_ok (c : Nat) (hc : c ≤ 1000) (W : World) : Calls Tryz.prog 41 #[.string ⟨#[0]⟩, .int .i64 c] W fun e w' => e = .returned (.string (zeros c)) ∧ Below W.heap.size W w' := by
  match c, hc with
  | 0, _ => exact (Tryz.strings_Repeat_zero ⟨#[0]⟩ W).mono (by rintro e w' ⟨rfl, rfl⟩; exact ⟨rfl, Below.refl _ _⟩)
  | 1, _ => exact (Tryz.strings_Repeat_one ⟨#[0]⟩ W).mono (by rintro e w' ⟨rfl, rfl⟩; exact ⟨rfl, Below.refl _ _⟩)
  | n + 2, hc =>
    refine (Tryz.strings_Repeat_main ⟨#[0]⟩ (n + 2) W (by omega) (by omega) (by show 1 * _ ≤ _; omega) (by decide)).mono ?_
    rintro e w' ⟨rfl, hb⟩
    refine ⟨retS ?_, hb⟩
    unfold zeros
    congr 1
    apply Array.ext'
    exact repeatL_zero (n + 2)

structure OkD (D : Dk) : Prop where
  f0 : -1 ≤ D.fuse
  f1 : D.fuse ≤ 9223372036854775807
  w0 : 0 ≤ D.writes
  w1 : D.writes ≤ 1000000
  b0 : 0 ≤ D.barriers
  b1 : D.barriers ≤ 1000000
  wl : D.wait.length ≤ 1000000
  kl : D.kept.length ≤ 1000000
  wk : ∀ x ∈ D.wait, 0 ≤ x.2 ∧ x.2 < (D.kept.length : Int)

def writeE (D : Dk) (i : Int) (s : ByteArray) : Int := if thereE D i = 0 then (if 128 < s.size then 4 else burnE D) else thereE D i
def wroteD (D : Dk) (i : Int) (s : ByteArray) : Dk := { burnD D with writes := (burnD D).writes + 1, wait := (burnD D).wait ++ [(pad s, i)] }
def writeD (D : Dk) (i : Int) (s : ByteArray) : Dk := if thereE D i = 0 ∧ ¬ 128 < s.size then (if D.fuse = 0 then burnD D else wroteD D i s) else D

theorem burnD_same (D : Dk) : (burnD D).kept = D.kept ∧ (burnD D).wait = D.wait ∧ (burnD D).writes = D.writes ∧ (burnD D).barriers = D.barriers := by
  unfold burnD; split <;> exact ⟨rfl, rfl, rfl, rfl⟩

set_option maxRecDepth 100000 in
set_option maxHeartbeats 800000 in
theorem write_ok {E W : World} {L : List HP} {b : Nat} {D : Dk} (x : Sat E W (isDisk b D :: L)) (ok : OkD D) (i : Int) (s : ByteArray) (hs : s.size ≤ 9223372036854775807) :
    Calls Tryz.prog 64 #[.pointer (some ⟨b, 0, none⟩), .int .i64 i, .string s] W fun e w' => e = .returned (.int .i64 (writeE D i s)) ∧ Sat E w' (isDisk b (writeD D i s) :: L) := by
  have HX := Lib.hid x
  have HOK := Lib.hid ok
  clear x ok
  obtain ⟨t, ht⟩ : ∃ t, thereE D i = t := ⟨_, rfl⟩
  have HT := Lib.hid ht
  clear ht
  by_cases h0 : t = 0
  · by_cases h1 : 128 < s.size
    · subst h0
      go_enter Tryz.func64, Tryz.ntmps64
      go_wp2_with (go_at_call 92; refine (there_ok HX.out i).mono ?_; rintro e w2 ⟨rfl, rfl⟩; rw [HT.out])
      go_ret
      exact ⟨retI (by unfold writeE; rw [HT.out, if_pos rfl, if_pos h1]), by unfold writeD; rw [if_neg (by simp [h1])]; exact HX.out⟩
    · by_cases h2 : D.fuse = 0
      · have hbe : burnE D = 30 := by unfold burnE; rw [if_pos h2]
        have HBE := Lib.hid hbe
        have H2 := Lib.hid h2
        clear hbe h2
        subst h0
        go_enter Tryz.func64, Tryz.ntmps64
        go_wp2_with (first
          | (go_at_call 92; refine (there_ok HX.out i).mono ?_; rintro e w2 ⟨rfl, rfl⟩; rw [HT.out])
          | (go_at_call 60; refine (burn_ok HX.out HOK.out.f0 HOK.out.f1).mono ?_; rintro e w3 ⟨rfl, hx3⟩; rw [HBE.out]))
        go_ret
        exact ⟨retI (by unfold writeE; rw [HT.out, if_pos rfl, if_neg h1, HBE.out]), by unfold writeD; rw [if_pos ⟨HT.out, h1⟩, if_pos H2.out]; exact hx3⟩
      · have hbe : burnE D = 0 := by unfold burnE; rw [if_neg h2]
        have HBE := Lib.hid hbe
        have H2 := Lib.hid h2
        clear hbe h2
        subst h0
        obtain ⟨n, hn⟩ : ∃ n, s.size = n := ⟨_, rfl⟩
        rw [hn] at hs h1
        have h128 : 0 ≤ 128 - (n : Int) := by omega
        obtain ⟨z, hz⟩ : ∃ z, zeros (128 - n) = z := ⟨_, rfl⟩
        obtain ⟨k, hk2, hk3⟩ : ∃ k, z.size = k ∧ k ≤ 128 := ⟨_, rfl, by rw [← hz, zeros_size]; omega⟩
        have HZ := Lib.hid hz
        clear hz
        go_enter Tryz.func64, Tryz.ntmps64
        go_wp2_with (first
          | (go_at_call 92; refine (there_ok HX.out i).mono ?_; rintro e w2 ⟨rfl, rfl⟩; rw [HT.out])
          | (go_at_call 60; refine (burn_ok HX.out HOK.out.f0 HOK.out.f1).mono ?_; rintro e w3 ⟨rfl, hx3⟩; rw [HBE.out]; obtain ⟨ak, ck, aw, cw, hx4, -, hcw⟩ := disk_open hx3; obtain ⟨-, c1, -, -, c4, -, f⟩ := disk_cells hx4; rw [(burnD_same D).2.2.1] at c4; have f4 := f 4; clear f hx3)
          | (go_at_call 61; refine (add_ok c4 f4 HOK.out.w0 (by have := HOK.out.w1; omega)).mono ?_; rintro e w5 ⟨rfl, rfl⟩))
        have hx5 := hx4.setCell 4 (.int .i64 (D.writes + 1))
        clear c1 c4 f4 hx4
        have c1 := cell_blk hx5.at 1
        refine wp_region_planL [(0, true), (1, true), (2, true), (3, true), (4, true), (5, true), (6, true), (7, true), (8, true), (12, true), (9, false), (10, true), (11, true), (13, true), (14, false), (15, false), (16, true), (17, true), (18, false)]
          [(18, fun w1 => w1.cell? ⟨b, 1, none⟩ = some (.slice aw (burnD D).wait.length cw))] (by kernel_rfl) (by kernel_rfl) (by intro c a d v w h; cases d <;> exact h) ?_ ?_
        · exact ⟨c1, trivial⟩
        simp only [planOps, List.getElem?_cons_zero, List.getElem?_cons_succ]
        iterate 4 ((apply plan_pure rfl; (intro w1; go_simp; try go_bits); with_reducible rfl); try simp only [Act.put, List.setIfInBounds_toArray, List.set_cons_zero, List.set_cons_succ])
        ((refine' plan_load 0 rfl (by kernel_rfl) rfl ?_ ?_; rotate_left; (intro w1 hw1; go_simp; with_reducible rfl)); try simp only [Act.put, List.setIfInBounds_toArray, List.set_cons_zero, List.set_cons_succ])
        iterate 5 ((apply plan_pure rfl; (intro w1; go_simp; try go_bits); with_reducible rfl); try simp only [Act.put, List.setIfInBounds_toArray, List.set_cons_zero, List.set_cons_succ])
        refine plan_loud rfl (fun K hK => ?_); go_simp
        rw [show (128 : Int) - (n : Int) = ((128 - n : Nat) : Int) by omega]
        refine (repeat_ok (128 - n) (by omega) _).mono ?_
        rintro e w6 ⟨rfl, hb6⟩
        rw [HZ.out]
        dsimp only
        have hx6 := hx5.drew.ofBelow hb6
        refine hK _ _ ⟨cell_blk hx6.at 1, trivial⟩ ?_
        clear hK K hb6 c1 hx5
        refine plan_pure (v := .string (s ++ z)) rfl (fun w1 => by go_simp; omega) ?_
        try simp only [Act.put, List.setIfInBounds_toArray, List.set_cons_zero, List.set_cons_succ]
        iterate 2 ((apply plan_pure rfl; (intro w1; go_simp; try go_bits); with_reducible rfl); try simp only [Act.put, List.setIfInBounds_toArray, List.set_cons_zero, List.set_cons_succ])
        refine plan_loud rfl (fun K hK => ?_); go_simp
        refine hK _ _ ⟨cell_al (cell_blk hx6.at 1), trivial⟩ ?_
        clear hK K
        refine plan_loud rfl (fun K hK => ?_)
        have hwl := HOK.out.wl
        rw [← (burnD_same D).2.1] at hwl
        refine wp_app1 _ _ 93 rfl hx6.p2 24 (.agg #[.string ByteArray.empty, .int .i64 0]) (by kernel_rfl) Tryz.underlying93 rfl rfl [.string (s ++ z), .int .i64 i] rfl rfl (by simp [Value.oneCell']) (by omega) (by omega) ?_
        intro v8 w8 hx8 _
        obtain ⟨g8, cap8, rfl, -⟩ := hx8.rowSees (by omega)
        have hx8 := hx8.p1
        have c8 := cell_blk hx8.at 1
        have f8 := frozen_blk hx8.at 1
        refine hK _ _ ⟨c8, trivial⟩ ?_
        clear hK K
        try simp only [Act.put, List.setIfInBounds_toArray, List.set_cons_zero, List.set_cons_succ]
        iterate 2 ((apply plan_pure rfl; (intro w1; go_simp; try go_bits); with_reducible rfl); try simp only [Act.put, List.setIfInBounds_toArray, List.set_cons_zero, List.set_cons_succ])
        refine plan_loud rfl (fun K hK => ?_); go_simp
        refine hK _ _ trivial (plan_nil ?_)
        clear hK K
        go_wp2
        go_ret
        refine ⟨retI (by unfold writeE; rw [HT.out, if_pos rfl, if_neg (by omega), HBE.out]), ?_⟩
        have hx9 := hx8.setCell 1 (.slice (some ⟨g8, 0, none⟩) ((burnD D).wait.length + 1) cap8)
        unfold writeD
        rw [if_pos ⟨HT.out, by omega⟩, if_neg H2.out]
        unfold wroteD
        have hpad : pad s = s ++ z := by unfold pad; rw [hn, HZ.out]
        have hwr : (burnD D).writes = D.writes := (burnD_same D).2.2.1
        rw [hpad]
        refine disk_close (vk := .slice ak (burnD D).kept.length ck) (vw := .slice (some ⟨g8, 0, none⟩) ((burnD D).wait.length + 1) cap8) ?_
        rw [← hwr] at hx9
        simpa [waits, diskObj] using hx9.p2.p1
  · have hb : (t != 0) = true := by simp [h0]
    go_enter Tryz.func64, Tryz.ntmps64
    go_wp2_with (go_at_call 92; refine (there_ok HX.out i).mono ?_; rintro e w2 ⟨rfl, rfl⟩; rw [HT.out])
    go_ret
    exact ⟨retI (by unfold writeE; rw [HT.out, if_neg h0]), by unfold writeD; rw [if_neg (by rw [HT.out]; exact fun h => h0 h.1)]; exact HX.out⟩
end Go.Proofs.YtmkpglabiikdeaaGreatDoor

