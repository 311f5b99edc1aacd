/-
  posthouse/image: Write, walked.
-/
import Derived.LoopNIn
import Derived.LoopIn
import Derived.Shelf.Abstract
import Derived.Shelf.RegionOpen
import Derived.Test.YtmkpglabiikdeaaImgC
namespace Go.Proofs.Ytmkpglabiikdeaa
open Go.RowKit PH
attribute [local go_sem] Oper.semAt_some

set_option maxRecDepth 100000 in
set_option maxHeartbeats 1600000 in
theorem imgWrite_nil {E W : World} {L : List HP} (x : Sat E W L) (f c : Int) (s : ByteArray) : Calls Try.prog 47 #[.pointer none, .int .i64 f, .int .i64 c, .string s] W fun e w' => e = .returned (.int .i64 1) ∧ Sat E w' L := by
  have XX := Lib.hid x
  clear x
  go_enter Try.func47, Try.ntmps47
  go_wp2_with (go_at_call 81; refine (within_nil _ _ _).mono ?_; rintro e w2 ⟨rfl, rfl⟩)
  have hfin := (((XX.out.alloc (.cells #[.pointer none] 44)).alloc (.cells #[.int .i64 f] 3)).alloc (.cells #[.int .i64 1] 24))
  rw [World.size_alloc, World.size_alloc] at hfin
  refine bodyPost_ret (v := .int .i64 1) ?_ rfl ⟨rfl, hfin.tail.tail.tail⟩
  have h1 := cell_blk hfin.at 0
  simp [results, Try.results47, go_sem, h1]

def wI (B b g : Nat) (f : Int) (T : ByteArray) (v : Int) (D : Dk) : List HP :=
  [bytesR g T, pt (B + 1 + 1) (.cells #[.int .i64 v] 24), pt (B + 1) (.cells #[.int .i64 f] 3), pt B (.cells #[.pointer (some ⟨b, 0, none⟩)] 44), isDisk b D]
def wJ (B b g : Nat) (f : Int) (T : ByteArray) (D : Dk) {m : Nat} (xs : List (Fin m)) : HP :=
  seps [fact ((imgWL D f T xs).1 = 0), seps (wI B b g f T 0 (imgWL D f T xs).2)]
def wX (B b g : Nat) (f : Int) (T : ByteArray) (D : Dk) {m : Nat} (c : Code) (xs : List (Fin m)) : HP :=
  seps [fact (c = .ret ∧ (imgWL D f T xs).1 ≠ 0), seps (wI B b g f T (imgWL D f T xs).1 (imgWL D f T xs).2)]
def wB (B b g q : Nat) (f c : Int) (s : ByteArray) (cap : Nat) (T : ByteArray) (D : Dk) {m : Nat} (pre : List (Fin m)) (x : Fin m) (a' : Act) : HP := fun h =>
  a' = { tmps := #[.pointer (some ⟨b, 0, none⟩), .int .i64 f, .int .i64 c, .string s, .pointer (some ⟨B, 0, none⟩), .pointer (some ⟨B + 1, 0, none⟩), undef, undef, .pointer (some ⟨B + 1 + 1, 0, none⟩), .int .i64 0, .int .i64 m, .int .i64 (x.1 : Nat), .slice (some ⟨g, x.1 * 128, none⟩) 128 128, undef, .pointer (some ⟨b, 0, none⟩), .int .i64 f, .int .i64 c, .int .i64 0, .int .i64 0, .bool false, undef, .string s, .int .i64 s.size, .int .i64 m, .int .i64 m, .bool false, .bool false, .int .i64 m, .int .i64 c, .bool (decide (c < m)), .bool (decide (c < m)), .string s, .slice (some ⟨g, 0, none⟩) (128 * m) cap, .func (.func 111) #[] #[.pointer (some ⟨q, 0, none⟩)], .int .i64 (x.1 : Nat), .slice (some ⟨g, x.1 * 128, none⟩) 128 128, undef, undef, undef, undef, undef, undef, undef, undef, undef, undef], defers := [] } ∧ wJ B b g f T D pre h

set_option maxRecDepth 100000 in
set_option maxHeartbeats 1600000 in
theorem imgWrite_go {E W : World} {L : List HP} {b : Nat} {D : Dk} (x : Sat E W (isDisk b D :: L)) (ok : OkD D) (hw : D.writes ≤ 1000) (hl : D.wait.length ≤ 1000) (f c : Int) (s : ByteArray) (hs : s.size ≤ 2000)
    (ha : areaE D f c = 0) (hc : ¬ c < sectN s.size) :
    Calls Try.prog 47 #[.pointer (some ⟨b, 0, none⟩), .int .i64 f, .int .i64 c, .string s] W fun e w' => e = .returned (.int .i64 (imgW D f (imgB s) (secs s.size)).1) ∧ Sat E w' (isDisk b (imgW D f (imgB s) (secs s.size)).2 :: L) := by
  have hsec : sectN s.size = secs s.size := sectN_yes (by omega)
  have hfb : 0 ≤ f ∧ f ≤ 1000000 := by
    have hk := ok.kl
    unfold areaE at ha
    split at ha
    · cases ha
    · split at ha
      · cases ha
      · omega
  obtain ⟨hf0, hf1⟩ := hfb
  have HWI := fun {E' w : World} {L' : List HP} (x : Sat E' w (isDisk b D :: L')) => within_ok x ok.kl f c
  rw [ha] at HWI
  have hB := ((x.alloc (.cells #[.pointer (some ⟨b, 0, none⟩)] 44)).alloc (.cells #[.int .i64 f] 3)).alloc (.cells #[.int .i64 0] 24)
  rw [World.size_alloc, World.size_alloc] at hB
  have hlaid := fun {E' w : World} {L' : List HP} (x : Sat E' w L') => imgLaid_ok x s (by omega)
  obtain ⟨T, hT⟩ : ∃ T, imgB s = T := ⟨_, rfl⟩
  have hTs := imgB_size s
  rw [hT] at hTs ⊢
  obtain ⟨m, hm⟩ : ∃ m, secs s.size = m := ⟨_, rfl⟩
  have hm1 : 1 ≤ m := hm ▸ secs_pos s.size
  have hm2 : m ≤ 100 := by rw [← hm]; unfold secs; omega
  rw [hm] at hTs hsec ⊢
  rw [hsec] at hc
  have HLAID : Hid (∀ {E' w : World} {L' : List HP} (x : Sat E' w L'), Calls Try.prog 84 #[.string s] w fun e w' => ∃ g cap, e = .returned (.slice (some ⟨g, 0, none⟩) (128 * m) cap) ∧ 128 * m ≤ cap ∧ Sat E' w' (bytesR g T :: L')) := Lib.hid (by rw [← hT, ← hm]; exact hlaid)
  have HWIN : Hid (∀ {E' w : World} {L' : List HP} (x : Sat E' w (isDisk b D :: L')), Calls Try.prog 81 #[.pointer (some ⟨b, 0, none⟩), .int .i64 f, .int .i64 c] w fun e w' => e = .returned (.int .i64 0) ∧ w' = w) := Lib.hid HWI
  have HSEC := Lib.hid hsec
  have hmz : ((m : Int) == 0) = false := beq_eq_false_iff_ne.2 (by omega)
  obtain ⟨B, hBe⟩ : ∃ B, W.heap.size = B := ⟨_, rfl⟩
  rw [hBe] at hB
  have HB := Lib.hid hB
  have HTS := Lib.hid hTs
  have HOK := Lib.hid ok
  clear hB hTs hT hlaid HWI hsec x ha ok hm
  refine (callsIn_wide (n := 3)).1 ?_
  refine callsIn_of_wp_marks Try.func47 rfl trivial ?_ rfl
  simp only [Try.ntmps47, List.size_toArray, List.length_cons, List.length_nil, Nat.reduceAdd, Nat.reduceSub, Array.replicate_succ, Array.replicate_zero, List.push_toArray, List.append_toArray, List.nil_append, List.cons_append]
  have c0 := cell_blk HB.out.p2.at 0
  have c1 := cell_blk HB.out.p1.at 0
  gi_wp2_with (first
    | (refine ⟨trivial, ?_⟩; gi_at_call 81; refine (callsIn_wide.2 (HWIN.out HB.out.p3)).mono ?_; rintro e w2 ⟨rfl, rfl⟩)
    | (refine ⟨trivial, ?_⟩; gi_at_call 45; refine (callsIn_wide.2 (sectors_ok _ _)).mono ?_; rintro e w3 ⟨rfl, rfl⟩; rw [HSEC.out])
    | (refine ⟨trivial, ?_⟩; gi_at_call 84; refine (callsIn_wide.2 (HLAID.out HB.out)).mono ?_; rintro e w4 ⟨g, cap, rfl, hcap, hx4⟩; have HX4 := Lib.hid hx4; clear hx4)
    | (refine ⟨trivial, ?_⟩; gi_at_call 85; refine (callsIn_wide.2 (cut_ok _ _ _ _)).mono ?_; rintro e w5 ⟨rfl, rfl⟩))
  have hx := HX4.out.alloc (.cells #[.slice (some ⟨g, 0, none⟩) (128 * m) cap] 96)
  obtain ⟨q, hq⟩ : ∃ q, w4.heap.size = q := ⟨_, rfl⟩
  rw [hq] at hx ⊢
  clear HX4 HB c0 c1
  refine wpIn_range (encs := fun i : Fin m => #[.int .i64 (i.1 : Nat), .slice (some ⟨g, i.1 * 128, none⟩) 128 128]) (gf := 111) (lb := #[.pointer (some ⟨q, 0, none⟩)]) (E := E) (L := L) rfl (enters_of Try.func111 (by kernel_rfl) rfl)
    (cut_seq q g m (128 * m) cap rfl (by omega) hcap) (fun _ => rfl) (wJ B b g f T D) (wX B b g f T D) (wB B b g q f c s cap T D) ?h0 ?assign ?body ?done ?stop
  case h0 =>
    have h1 := (hx.p5.p5.p5.p5.p5.pack [_, _, _, _, _]).mkFact (p := (imgWL D f T ([] : List (Fin m))).1 = 0) rfl
    exact h1.pack [_, _]
  case assign =>
    intro l z pre x W L K hx hK
    gi_wp2
    exact hx.head fun h hh => ⟨rfl, hh⟩
  case body =>
    intro l z pre x a' W L hlen hx
    obtain rfl := hx.says fun _ h _ => h.1
    have hy := (hx.head fun _ h => h.2).flat
    clear hx
    obtain ⟨hf, hy⟩ := hy.fact
    have hy := hy.flat
    have okp := imgWL_ok HOK.out hw hl f T pre (by omega)
    have hcv := bytesR_conv (o := x.1 * 128) (n := 128) (cap := 128) hy (by rw [HTS.out]; have := x.2; omega)
    have hchs : (chunk T x.1).size = 128 := chunk_size HTS.out x.2
    rw [show T.extract (x.1 * 128) (x.1 * 128 + 128) = chunk T x.1 by unfold chunk; rw [Nat.mul_comm]] at hcv
    have hsn : stepW f T (imgWL D f T pre) x = (writeE (imgWL D f T pre).2 (f + (x.1 : Nat)) (chunk T x.1), writeD (imgWL D f T pre).2 (f + (x.1 : Nat)) (chunk T x.1)) := by unfold stepW; rw [if_pos hf]
    have hsn2 := imgWL_snoc D f T pre x
    rw [hsn] at hsn2
    have hwr := write_ok (hy.p4) okp (f + (x.1 : Nat)) (chunk T x.1) (by omega)
    obtain ⟨we, hwe⟩ : ∃ e, writeE (imgWL D f T pre).2 (f + (x.1 : Nat)) (chunk T x.1) = e := ⟨_, rfl⟩
    obtain ⟨wd, hwd⟩ : ∃ e, writeD (imgWL D f T pre).2 (f + (x.1 : Nat)) (chunk T x.1) = e := ⟨_, rfl⟩
    rw [hwe, hwd] at hwr hsn2
    obtain ⟨C, hC⟩ : ∃ C, chunk T x.1 = C := ⟨_, rfl⟩
    rw [hC] at hwr hcv
    have HSN := Lib.hid hsn2
    have HWR := Lib.hid hwr
    have b0 := cell_blk hy.p3.at 0
    have b1 := cell_blk hy.p2.at 0
    clear hy hsn hsn2 hwr hwe hwd hC okp hf hchs
    obtain ⟨x, hxm⟩ := x
    dsimp only at *
    by_cases h0 : we = 0
    · subst h0
      gi_wp2_with (first
        | (refine ⟨trivial, fun h => (by simp [Fence.wide] at h), ?_⟩; gi_at_call 32; refine ((callsIn_wide.2 HWR.out).inRound l).mono ?_; rintro e w6 ⟨rfl, hx6⟩; have b2 := cell_blk hx6.p2.at 0; have f2 := frozen_blk hx6.p2.at 0; have HX6 := Lib.hid hx6; clear hx6)
        | (refine ⟨trivial, fun h => (by simp [Fence.wide, Fence.inRound] at h), ?_⟩; gi_at_call 32; refine ((callsIn_wide.2 HWR.out).inRound l).mono ?_; rintro e w6 ⟨rfl, hx6⟩; have b2 := cell_blk hx6.p2.at 0; have f2 := frozen_blk hx6.p2.at 0; have HX6 := Lib.hid hx6; clear hx6))
      show Sat _ _ _
      unfold wJ wI
      rw [HSN.out]
      exact ((HX6.out.p4.p4.p4.p4.pack [_, _, _, _, _]).mkFact rfl).pack [_, _]
    · have hb0 : (we != 0) = true := by simp [h0]
      gi_wp2_with (first
        | (refine ⟨trivial, fun h => (by simp [Fence.wide] at h), ?_⟩; gi_at_call 32; refine ((callsIn_wide.2 HWR.out).inRound l).mono ?_; rintro e w6 ⟨rfl, hx6⟩; have b2 := cell_blk hx6.p2.at 0; have f2 := frozen_blk hx6.p2.at 0; have HX6 := Lib.hid hx6; clear hx6)
        | (refine ⟨trivial, fun h => (by simp [Fence.wide, Fence.inRound] at h), ?_⟩; gi_at_call 32; refine ((callsIn_wide.2 HWR.out).inRound l).mono ?_; rintro e w6 ⟨rfl, hx6⟩; have b2 := cell_blk hx6.p2.at 0; have f2 := frozen_blk hx6.p2.at 0; have HX6 := Lib.hid hx6; clear hx6))
      show Sat _ _ (wX B b g f T D .ret (pre ++ [⟨x, hxm⟩]) :: L)
      unfold wX wI
      rw [HSN.out]
      exact (((HX6.out.p4.p4.p4.p4.p1.setCell 0 (.int .i64 we)).p1.pack [_, _, _, _, _]).mkFact ⟨rfl, h0⟩).pack [_, _]
  case done =>
    rintro D' _ W' rfl hx
    have hx := hx.flat
    have hf := hx.fact.1
    have hx := hx.fact.2.flat
    rw [imgWL_firsts D f T m (Nat.le_refl _)] at hf hx
    have hz := hx.p6
    have f2 := frozen_blk hz.p2.at 0
    have c2 := cell_blk hz.p2.at 0
    have hfin := (hz.p2.setCell 0 (.int .i64 0)).p1
    gi_wp2
    refine post_mark (v := .int .i64 0) hfin ?_ ?_
    · have h1 := cell_blk (hfin.putObj (.deferred none)).p1.at 0
      simp [results, Try.results47, go_sem, h1]
    · rintro w' - hx
      exact ⟨retI hf.symm, hx.p4.p1.tail.p1.tail.p1.tail.p1.tail.p1.tail⟩
  case stop =>
    rintro D' c' pre W' ⟨j, hj, rfl⟩ hx
    have hx := hx.flat
    obtain ⟨rfl, hf⟩ := hx.fact.1
    have hx := hx.fact.2.flat
    rw [imgWL_firsts D f T j hj] at hf hx
    have hst := imgW_stop hf (m - j)
    rw [show j + (m - j) = m by omega] at hst
    rw [← hst] at hf hx
    obtain ⟨R, hR⟩ : ∃ R, imgW D f T m = R := ⟨_, rfl⟩
    rw [hR] at hx
    have HR := Lib.hid hR
    have hfin := hx.p6
    clear hst hR hf
    gi_wp2
    refine post_mark (v := .int .i64 R.1) hfin ?_ ?_
    · have h1 := cell_blk (hfin.putObj (.deferred none)).p2.at 0
      simp [results, Try.results47, go_sem, h1]
    · rintro w' - hx
      refine ⟨retI (by rw [HR.out]), ?_⟩
      rw [HR.out]
      exact hx.p4.p1.tail.p1.tail.p1.tail.p1.tail.p1.tail
end Go.Proofs.Ytmkpglabiikdeaa
