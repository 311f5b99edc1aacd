/-
  posthouse/disk.Disk.Read: a range over slices.Backward.
-/
import Derived.LoopNIn
import Derived.LoopIn
import Derived.Shelf.Abstract
import Derived.Shelf.RegionOpen
import Derived.Test.YtmkpglabiikdeaaGreatDoorDiskB
import Derived.Test.YtmkpglabiikdeaaGreatDoorRangeW
namespace Go.Proofs.YtmkpglabiikdeaaGreatDoor
open Go.RowKit PH
attribute [local go_sem] Oper.semAt_some

def wAt (l : List (ByteArray × Int)) (i : Nat) : ByteArray × Int := l.getD i (ByteArray.empty, 0)
/-- The first j of the elements, from the end. -/
def backs (l : List (ByteArray × Int)) (j : Nat) : List (Nat × ByteArray × Int) := (List.range j).map fun r => (l.length - 1 - r, wAt l (l.length - 1 - r))
theorem backs_succ (l : List (ByteArray × Int)) (j : Nat) : backs l (j + 1) = backs l j ++ [(l.length - 1 - j, wAt l (l.length - 1 - j))] := by simp [backs, List.range_succ]
theorem wAt_get {l : List (ByteArray × Int)} {i : Nat} (h : i < l.length) : l[i]? = some (wAt l i) := by simp [wAt, List.getD, List.getElem?_eq_getElem h]

set_option maxRecDepth 100000 in
set_option maxHeartbeats 400000 in
theorem backward_seq (l : List (ByteArray × Int)) (hl : l.length ≤ 1000000) (q : Nat) (aw : Option Addr) (cw : Nat) :
    SeqSL Tryz.prog 136 #[.pointer (some ⟨q, 0, none⟩)] (fun x : Nat × ByteArray × Int => #[.int .i64 x.1, .agg #[.string x.2.1, .int .i64 x.2.2]])
      (seps [pt q (.cells #[.slice aw l.length cw] 93), row 149 2 (.slice aw l.length cw) l.length (waits l)]) (seps [pt q (.cells #[.slice aw l.length cw] 93), row 149 2 (.slice aw l.length cw) l.length (waits l)]) (fun ys => ys = backs l l.length) (fun ys => ∃ j, j ≤ l.length ∧ ys = backs l j) l.length := by
  intro y n E J Jx hY W L h0
  have h0 := h0.p1.flat
  have hc0 := cell_blk h0.at 0
  obtain ⟨len, hlen⟩ : ∃ len, l.length = len := ⟨_, rfl⟩
  have HL := Lib.hid hlen
  rw [hlen] at hl h0 hc0
  clear hlen
  refine callsIn_of_wp Tryz.func136 rfl trivial ?_ rfl
  simp only [Tryz.ntmps136, List.size_toArray, List.length_cons, List.length_nil, Nat.reduceAdd, Nat.reduceSub, Array.replicate_succ, Array.replicate_zero, List.push_toArray, List.append_toArray, List.nil_append, List.cons_append]
  gi_wp2
  gi_loopw [3] (fun i wr => ∃ k : Nat, k ≤ len ∧ i = .int .i64 ((len : Int) - 1 - k) ∧ Sat E wr (J (backs l k) :: pt q (.cells #[.slice aw len cw] 93) :: row 149 2 (.slice aw len cw) len (waits l) :: L)) (fun i _ => (intOf i + 1).toNat)
  case atStart => exact ⟨0, by omega, by simp, h0.p2⟩
  case round =>
    obtain ⟨k, hk, rfl, hx⟩ := hrel
    have hc : wr.cell? ⟨q, 0, none⟩ = some (.slice aw len cw) := by rw [cell_blk hx.p1.at]; rfl
    by_cases hlt : k < len
    · obtain ⟨p, hp⟩ : ∃ p : Nat, len - 1 - k = p := ⟨_, rfl⟩
      have hp2 : (len : Int) - 1 - (k : Int) = (p : Int) := by omega
      have hpl : p < len := by omega
      obtain ⟨g, cap, e, -, -, -, hsee⟩ := hx.p2.rowSees (by omega)
      cases e
      obtain ⟨⟨s, a⟩, hw⟩ : ∃ x, wAt l p = x := ⟨_, rfl⟩
      have hget := wAt_get (l := l) (i := p) (by rw [HL.out]; exact hpl)
      rw [hw] at hget
      obtain ⟨w0, w1⟩ := waits_get hget
      have d0 := hsee _ _ w0
      have d1 := hsee _ _ w1
      rw [Nat.zero_add] at d0 d1
      have hw' := fun m => hY m (backs l k) (p, s, a) wr _ (by rw [HL.out]; simpa [backs] using hlt) hx
      obtain ⟨fn, tmps, assign, body, hy, hR⟩ := hw' (n - 1)
      have HY := Lib.hid hy
      have hb0 : backs l k ++ [(p, s, a)] = backs l (k + 1) := by rw [backs_succ, HL.out, hp, hw]
      have HB := Lib.hid hb0
      clear hb0
      clear hy hw' hsee w0 w1 hget hw hc0
      rw [hp2]
      gi_wp2
      rw [HY.out]
      go_simp
      refine ⟨fun h => by simp [Fence.wide] at h, hR.mono ?_⟩
      rintro e W' (⟨rfl, h1⟩ | ⟨rfl, h1⟩)
      · clear d0 d1 hc
        rw [HB.out] at h1
        gi_wp2
        refine ⟨⟨k + 1, by omega, by rw [show (p : Int) - 1 = (len : Int) - 1 - ((k + 1 : Nat) : Int) by omega], h1⟩, by simp [intOf]⟩
      · gi_wp2
        refine bodyPost_ret (results_none rfl _ _ _) rfl ?_
        rw [HB.out] at h1
        exact ⟨⟨_, rfl⟩, .inr ⟨_, ⟨k + 1, by rw [HL.out]; omega, rfl⟩, by rw [HL.out]; exact (h1.p2.p2.pack [_, _]).p1⟩⟩
    · obtain rfl : k = len := by omega
      have hm1 : (k : Int) - 1 - (k : Int) = -1 := by omega
      rw [hm1]
      gi_wp2
      refine bodyPost_end (results_none rfl _ _ _) rfl ?_
      exact ⟨⟨_, rfl⟩, .inl ⟨backs l k, by rw [HL.out], by rw [HL.out]; exact (hx.p2.p2.pack [_, _]).p1⟩⟩

theorem backward_ok (a : Option Addr) (n c : Nat) (w : World) : Calls Tryz.prog 128 #[.slice a n c] w fun e w' =>
    e = .returned (.func (.func 136) #[] #[.pointer (some ⟨w.heap.size, 0, none⟩)]) ∧ w' = w.alloc (.cells #[.slice a n c] 93) := by
  go_enter Tryz.func128, Tryz.ntmps128
  go_wp2
  go_ret
  exact ⟨rfl, rfl⟩

def lastAt (l : List (ByteArray × Int)) (i : Int) : Option (ByteArray × Int) := l.reverse.find? fun x => x.2 == i
/-- What a sector has. -/
def readV (D : Dk) (i : Int) : ByteArray := match lastAt D.wait i with | some x => x.1 | none => D.kept.getD i.toNat ByteArray.empty
def readS (D : Dk) (i : Int) : ByteArray := if thereE D i = 0 then readV D i else ByteArray.empty

theorem backs_map (l : List (ByteArray × Int)) {j : Nat} (hj : j ≤ l.length) : (backs l j).map (·.2) = l.reverse.take j := by
  apply List.ext_getElem?
  intro i
  rw [List.getElem?_take]
  by_cases hi : i < j
  · rw [if_pos hi, List.getElem?_reverse (by omega), wAt_get (l := l) (i := l.length - 1 - i) (by omega)]
    simp [backs, hi]
  · rw [if_neg hi, List.getElem?_eq_none (by simp [backs]; omega)]

theorem there_in {D : Dk} {i : Int} (h : thereE D i = 0) : ∃ k : Nat, i = (k : Int) ∧ k < D.kept.length := by
  unfold thereE at h
  split at h
  · split at h
    · cases h
    · exact ⟨i.toNat, by omega, by omega⟩
  · exact absurd h (by assumption)
def isAt (i : Int) : ByteArray × Int → Bool := fun x => x.2 == i
def readI (b B : Nat) (D : Dk) (i : Int) (vk vw : Value) (s : ByteArray) : List HP :=
  [pt B (.cells #[.int .i64 i] 3), pt (B + 1) (.cells #[.string s] 9), pt (B + 1 + 1) (.cells #[.int .i64 0] 27), pt b (diskObj vk vw D), row 90 1 vk D.kept.length (sects D.kept)]
def readJ (b B : Nat) (D : Dk) (i : Int) (vk vw : Value) (xs : List (Nat × ByteArray × Int)) : HP :=
  seps [fact ((xs.map (·.2)).find? (isAt i) = none), seps (readI b B D i vk vw ByteArray.empty)]
def readX (b B : Nat) (D : Dk) (i : Int) (vk vw : Value) (c : Code) (xs : List (Nat × ByteArray × Int)) : HP :=
  ex fun d : ByteArray => seps [fact (c = .ret ∧ ∃ a, (xs.map (·.2)).find? (isAt i) = some (d, a)), seps (readI b B D i vk vw d)]
def readBq (b B : Nat) (D : Dk) (i : Int) (vk : Value) (aw : Option Addr) (cw : Nat) (pre : List (Nat × ByteArray × Int)) (x : Nat × ByteArray × Int) (a' : Act) (q : Nat) : HP :=
  fun h => a' = { tmps := List.toArray ((.pointer (some ⟨b, 0, none⟩) : Value) :: .int .i64 i :: undef :: .pointer (some ⟨B, 0, none⟩) :: .pointer (some ⟨B + 1, 0, none⟩) :: .pointer (some ⟨B + 1 + 1, 0, none⟩) :: .int .i64 0 :: undef :: .pointer (some ⟨q, 0, none⟩) :: .pointer (some ⟨b, 0, none⟩) :: .int .i64 i :: .int .i64 0 :: .int .i64 0 :: .bool false :: undef :: .pointer (some ⟨b, 0, none⟩) :: .pointer (some ⟨b, 0, none⟩) :: .pointer (some ⟨b, 1, none⟩) :: .slice aw D.wait.length cw :: .func (.func 136) #[] #[.pointer (some ⟨B + 1 + 1 + 1, 0, none⟩)] :: .int .i64 x.1 :: .agg #[.string x.2.1, .int .i64 x.2.2] :: undef :: undef :: undef :: undef :: undef :: undef :: undef :: undef :: undef :: undef :: undef :: undef :: undef :: undef :: undef :: []), defers := [] } ∧ seps [pt q (.cells #[.string x.2.1, .int .i64 x.2.2] 149), readJ b B D i vk (.slice aw D.wait.length cw) pre] h

def readB (b B : Nat) (D : Dk) (i : Int) (vk : Value) (aw : Option Addr) (cw : Nat) (pre : List (Nat × ByteArray × Int)) (x : Nat × ByteArray × Int) (a' : Act) : HP := ex fun q => readBq b B D i vk aw cw pre x a' q

set_option maxRecDepth 100000 in
set_option maxHeartbeats 800000 in
theorem read_yes {E W : World} {L : List HP} {b : Nat} {D : Dk} (x : Sat E W (isDisk b D :: L)) (ok : OkD D) (i : Int) (h0 : thereE D i = 0) :
    Calls Tryz.prog 119 #[.pointer (some ⟨b, 0, none⟩), .int .i64 i] W fun e w' => e = .returned (.tuple #[.string (readV D i), .int .i64 0]) ∧ Sat E w' (isDisk b D :: L) := by
  have HOK := Lib.hid ok
  clear ok
  have HT := Lib.hid h0
  clear h0
  have hB := ((x.alloc (.cells #[.int .i64 i] 3)).alloc (.cells #[.string ByteArray.empty] 9)).alloc (.cells #[.int .i64 0] 27)
  rw [World.size_alloc, World.size_alloc] at hB
  clear x
  refine (callsIn_wide (n := 3)).1 ?_
  refine callsIn_of_wp_marks Tryz.func119 rfl trivial ?_ rfl
  simp only [Tryz.ntmps119, List.size_toArray, List.length_cons, List.length_nil, Nat.reduceAdd, Nat.reduceSub, Array.replicate_succ, Array.replicate_zero, List.push_toArray, List.append_toArray, List.nil_append, List.cons_append]
  obtain ⟨ak, ck, aw, cw, hx, -, -⟩ := disk_open hB.p3
  have c1 := cell_blk hx.at 1
  have HX := Lib.hid hx
  clear hx
  have HB := Lib.hid hB
  clear hB
  gi_wp2_with (first
    | (refine ⟨trivial, ?_⟩; gi_at_call 92; refine (callsIn_wide.2 (there_ok HB.out.p3 i)).mono ?_; rintro e w2 ⟨rfl, rfl⟩; rw [HT.out])
    | (refine ⟨trivial, ?_⟩; gi_at_call 128; refine (callsIn_wide.2 (backward_ok _ _ _ _)).mono ?_; rintro e w' ⟨rfl, rfl⟩))
  have hx := HX.out.alloc (.cells #[.slice aw D.wait.length cw] 93)
  rw [World.size_alloc, World.size_alloc, World.size_alloc] at hx
  obtain ⟨B, hBe⟩ : ∃ B, W.heap.size = B := ⟨_, rfl⟩
  rw [hBe] at hx ⊢
  clear HX HB c1
  refine wpIn_range (encs := fun x : Nat × ByteArray × Int => #[.int .i64 x.1, .agg #[.string x.2.1, .int .i64 x.2.2]]) (gf := 136) (lb := #[.pointer (some ⟨B + 1 + 1 + 1, 0, none⟩)]) (E := E) (L := L) rfl (enters_of Tryz.func136 (by kernel_rfl) rfl)
    (backward_seq D.wait HOK.out.wl (B + 1 + 1 + 1) aw cw) (fun _ => rfl) (readJ b B D i (.slice ak D.kept.length ck) (.slice aw D.wait.length cw)) (readX b B D i (.slice ak D.kept.length ck) (.slice aw D.wait.length cw))
    (readB b B D i (.slice ak D.kept.length ck) aw cw) ?h0 ?assign ?body ?done ?stop
  case h0 =>
    have h1 := ((hx.p3.p1.pack [_, _]).p2.p2.p3.p4.p5.pack [_, _, _, _, _]).mkFact (p := (([] : List (Nat × ByteArray × Int)).map (·.2)).find? (isAt i) = none) rfl
    exact h1.pack [_, _]
  case assign =>
    intro l m pre x W L K hx hK
    gi_wp2
    refine (Sat.mkEx (A := fun q => readBq b B D i (.slice ak D.kept.length ck) aw cw pre x _ q) W.heap.size ?_)
    exact ((hx.alloc (.cells #[.string x.2.1, .int .i64 x.2.2] 149)).pack [_, _]).head fun h hh => ⟨rfl, hh⟩
  case body =>
    intro l m pre x a' W L hlen hx
    obtain ⟨n, s, at_⟩ := x
    obtain ⟨q, hx⟩ := hx.ex
    obtain rfl := hx.says fun _ h _ => h.1
    have hy := (hx.head fun _ h => h.2).flat.p1.flat
    clear hx
    obtain ⟨hf, hy⟩ := hy.fact
    have hy := hy.flat
    have q0 := cell_blk hy.p5.at 0
    have q1 := cell_blk hy.p5.at 1
    have b0 := cell_blk hy.at 0
    have b1 := cell_blk hy.p1.at 0
    have b2 := cell_blk hy.p2.at 0
    have f1 := frozen_blk hy.p1.at 0
    have f2 := frozen_blk hy.p2.at 0
    have HF := Lib.hid hf
    have HY := Lib.hid hy
    clear hf hy hx
    by_cases he : at_ = i
    · subst he
      gi_wp2
      show Sat _ _ _
      have hy := (((HY.out.p1.setCell 0 (.string s)).p2.setCell 0 (.int .i64 0)).p1.p2).p5.tail
      refine Sat.mkEx (A := fun d : ByteArray => seps [fact (Code.ret = .ret ∧ ∃ a, ((pre ++ [(n, s, at_)]).map (·.2)).find? (isAt at_) = some (d, a)), seps (readI b B D at_ (.slice ak D.kept.length ck) (.slice aw D.wait.length cw) d)]) s
        (((hy.pack [_, _, _, _, _]).mkFact ⟨rfl, at_, ?_⟩).pack [_, _])
      rw [List.map_append, List.find?_append, HF.out]
      simp [isAt]
    · have hb : (at_ == i) = false := beq_eq_false_iff_ne.2 he
      gi_wp2
      show Sat _ _ _
      have hy := HY.out.p5.tail
      refine ((hy.pack [_, _, _, _, _]).mkFact ?_).pack [_, _]
      rw [List.map_append, List.find?_append, HF.out]
      simp [isAt, hb]
  case done =>
    rintro D' _ W' rfl hx
    have hx := hx.flat
    have hf := hx.fact.1
    have hx := hx.fact.2.flat
    have hx := hx.p5.flat
    rw [backs_map _ (Nat.le_refl _), ← List.length_reverse, List.take_length] at hf
    obtain ⟨k, rfl, hk⟩ := there_in HT.out
    have hv : readV D k = D.kept.getD k ByteArray.empty := by
      unfold readV lastAt
      show (match List.find? (isAt k) _ with | some x => x.1 | none => _) = _
      rw [hf]; rfl
    obtain ⟨s, hs⟩ : ∃ s, D.kept[k]? = some s := ⟨_, List.getElem?_eq_getElem hk⟩
    rw [show D.kept.getD k ByteArray.empty = s by simp [List.getD, hs]] at hv
    have hz := hx.tail.p6
    have hz2 := ((hz.drew.p3.setCell 0 (.string s)).p4.setCell 0 (.int .i64 0)).p2
    obtain ⟨gk, ck', e, -, -, -, hsee⟩ := hx.p6.rowSees (by omega)
    cases e
    have d0 := hsee k (.string s) (by simp [sects, hs])
    rw [Nat.zero_add] at d0
    have e0 := cell_blk hx.p2.at 0
    have e1 := cell_blk hx.p5.at 0
    have e2 := cell_blk hx.p3.at 0
    have e3 := cell_blk hx.p4.at 0
    have f2 := frozen_blk hx.p3.at 0
    have f3 := frozen_blk hx.p4.at 0
    have hfin := hz2
    have HFIN := Lib.hid hfin
    clear hfin hz2 hz hx hsee hf
    gi_wp2
    refine wpIn_region_planN [(0, true), (1, true), (2, true), (3, true), (4, true), (5, true), (6, true), (7, true), (8, false), (9, false)]
      [(8, fun w1 => w1.cell? ⟨B, 0, none⟩ = some (.int .i64 k) ∧ w1.cell? ⟨b, 0, none⟩ = some (.slice (some ⟨gk, 0, none⟩) D.kept.length ck) ∧ w1.cell? ⟨gk, k, none⟩ = some (.string s))] (by kernel_rfl) (by kernel_rfl) (by kernel_rfl) ?_ ?_
    · exact ⟨⟨e0, e1, d0⟩, trivial⟩
    simp only [planOps, List.getElem?_cons_zero, List.getElem?_cons_succ]
    iterate 8 (first | ((apply plan_pure rfl; (intro w1; go_simp; try go_bits); with_reducible rfl); try simp only [Act.put, List.setIfInBounds_toArray, List.set_cons_zero, List.set_cons_succ]) | ((refine' plan_load 0 rfl (by kernel_rfl) rfl ?_ ?_; rotate_left; (intro w1 hw1; go_simp; with_reducible rfl)); try simp only [Act.put, List.setIfInBounds_toArray, List.set_cons_zero, List.set_cons_succ]))
    refine plan_loud rfl (fun K hK => ?_); go_simp
    refine hK _ _ trivial ?_
    clear hK K
    refine plan_loud rfl (fun K hK => ?_); go_simp
    refine hK _ _ trivial (plan_nil ?_)
    clear hK K
    simp only [onlyN]
    gi_wp2
    have hfin : Sat E (((W'.setCell ⟨B + 1, 0, none⟩ (.string s)).setCell ⟨B + 1 + 1, 0, none⟩ (.int .i64 0)).drew) _ := HFIN.out
    refine post_mark (v := .tuple #[.string s, .int .i64 0]) hfin ?_ ?_
    · have h1 := cell_blk (hfin.putObj (.deferred none)).p1.at 0
      have h2 := cell_blk (hfin.putObj (.deferred none)).p2.at 0
      simp [results, Tryz.results119, go_sem, h1, h2]
    · rintro w' - hx
      exact ⟨retS2 (by first | rfl | exact hv.symm) rfl, disk_close hx.tail.tail.p1.tail.p1.p2.p1⟩
  case stop =>
    rintro D' c pre W' ⟨j, hj, rfl⟩ hx
    obtain ⟨d, hx⟩ := hx.ex
    have hx := hx.flat
    obtain ⟨hc, a, hfind⟩ := hx.fact.1
    subst hc
    have hx := hx.fact.2.flat
    rw [backs_map _ hj] at hfind
    have hv : readV D i = d := by
      unfold readV lastAt
      have : D.wait.reverse.find? (fun x => x.2 == i) = some (d, a) := by
        rw [← List.take_append_drop j D.wait.reverse, List.find?_append]
        show (List.find? (isAt i) _).or _ = _
        rw [hfind]; rfl
      rw [this]
    have hfin := hx.p5.flat.tail.p6.p3.p4.p2
    gi_wp2
    refine post_mark (v := .tuple #[.string d, .int .i64 0]) hfin ?_ ?_
    · have h1 := cell_blk (hfin.putObj (.deferred none)).p1.at 0
      have h2 := cell_blk (hfin.putObj (.deferred none)).p2.at 0
      simp [results, Tryz.results119, go_sem, h1, h2]
    · rintro w' - hx
      exact ⟨retS2 (by first | rfl | exact hv.symm) rfl, disk_close hx.tail.tail.p1.tail.p1.p2.p1⟩
end Go.Proofs.YtmkpglabiikdeaaGreatDoor

