/-
  posthouse/disk.New: slices.Repeat of sectors.
-/
import Derived.Test.YtmkpglabiikdeaaGreatDoorDiskI
namespace Go.Proofs.YtmkpglabiikdeaaGreatDoor
open Go.RowKit PH

theorem wpList_madeS {ops : Array Oper} {rest : List Oper} {o : Oper} {ac : Act} {Q : Exit → Act → World → Prop} {w : World} (hg : o.guard = none) (l c : Operand)
    (hop : o.op = Op.makeSlice 91 l c) (n : Nat) (hn : n ≤ 1000000) (hl : ac.eval l = .int .i64 n) (hc : ac.eval c = .int .i64 n)
    (h : wpList Tryz.prog ops Q rest (ac.put o.dst (.slice (some ⟨w.heap.size, 0, none⟩) n n)) (w.alloc (.cells (madeCells #[.string ByteArray.empty] n) 90))) : wpList Tryz.prog ops Q (o :: rest) ac w := by
  obtain ⟨i, hi, hz, hsz, hby⟩ := info_parts (P := Tryz.prog) (e := 90) (z := .agg #[.string ByteArray.empty]) (size := 1) (bytes := 16) (by kernel_rfl)
  refine wpList_run hg ?_ h
  have := run_make (P := Tryz.prog) w 91 90 i _ Tryz.underlying91 hi hz .i64 .i64 n n (by omega) (by omega) (by rw [hby]; omega) (by omega)
  simp only [execOp, hop, hl, hc]
  simp [this, hsz, Value.cells, Result.andThen]

/-- A row of n sectors of which the first m are s. -/
def halfRow (n m : Nat) (s : ByteArray) : List Value := List.replicate m (.string s) ++ List.replicate (n - m) (.string ByteArray.empty)
theorem halfRow_len {n m : Nat} (h : m ≤ n) (s : ByteArray) : (halfRow n m s).length = n := by simp [halfRow]; omega
theorem halfRow_get {n m : Nat} (s : ByteArray) {j : Nat} (h : j < m) : (halfRow n m s)[j]? = some (.string s) := by
  unfold halfRow
  rw [List.getElem?_append_left (by simpa using h)]
  simp [h]
theorem halfRow_step {n m j : Nat} (h : m + j ≤ n) (s : ByteArray) : (halfRow n m s).take m ++ List.replicate j (.string s) ++ (halfRow n m s).drop (m + j) = halfRow n (m + j) s := by
  apply List.ext_getElem?
  intro i
  simp only [halfRow, List.getElem?_append, List.getElem?_take, List.getElem?_drop, List.length_append, List.length_take, List.length_replicate, List.getElem?_replicate]
  repeat' split
  all_goals first
    | rfl
    | omega
    | (congr 1; done)
theorem made_list (v : Value) (n : Nat) : (madeCells #[v] n).toList = List.replicate n v := by
  apply List.ext_getElem?
  intro i
  simp [madeCells, List.getElem?_replicate, Nat.mod_one]
  by_cases h : i < n <;> simp [h]

section
variable {E w : World} {L : List HP} {o : Oper} {ac : Act} {Q : Exit → Act → World → Prop} {g off dl dc b so sl sc : Nat} {cur : Array Value} {cs : List Value}
theorem runCopyS (ty : TypeId) (x : Sat E w (pt g (.cells cur 90) :: L)) (hn : cs.length = Nat.min sl dl) (hsrc : ∀ (j : Nat) (v : Value), cs[j]? = some v → w.cell? ⟨b, so + j, none⟩ = some v) (hfit : off + cs.length ≤ cur.size) (h1 : ∀ v ∈ cs, v.oneCell' = true) :
    (Builtin.copy_ #[91, 91] ty #[.slice (some ⟨g, off, none⟩) dl dc, .slice (some ⟨b, so, none⟩) sl sc]).run Tryz.prog w = .ok (.int .i64 cs.length) (w.setRow g (cur.toList.take off ++ cs ++ cur.toList.drop (off + cs.length)).toArray) :=
  run_copy_row (P := Tryz.prog) w 91 91 ty 90 g off dl dc ⟨b, so, none⟩ sl sc cur 90 cs Tryz.underlying91 (by kernel_rfl) x.at hn (fun j v hj => by
    have hadd : (⟨b, so, none⟩ : Addr).add j = ⟨b, so + j, none⟩ := by unfold Addr.add; split <;> simp_all
    rw [hadd]; exact hsrc j v hj) hfit h1
theorem wpList_copyS {ops : Array Oper} {rest : List Oper} (hgd : o.guard = none) (d s : Operand) (ho : o.op = .call { callee := .builtin .copy, args := #[d, s], argTypes := #[91, 91] })
    (x : Sat E w (pt g (.cells cur 90) :: L)) (hd : ac.eval d = .slice (some ⟨g, off, none⟩) dl dc) (hs : ac.eval s = .slice (some ⟨b, so, none⟩) sl sc) (cs : List Value) (hn : cs.length = Nat.min sl dl)
    (hsrc : ∀ (j : Nat) (v : Value), cs[j]? = some v → w.cell? ⟨b, so + j, none⟩ = some v) (hfit : off + cs.length ≤ cur.size) (h1 : ∀ v ∈ cs, v.oneCell' = true)
    (h : ∀ w', Sat E w' (pt g (.cells (cur.toList.take off ++ cs ++ cur.toList.drop (off + cs.length)).toArray 90) :: L) → wpList Tryz.prog ops Q rest (ac.put o.dst (.int .i64 cs.length)) w') : wpList Tryz.prog ops Q (o :: rest) ac w := by
  have hr := runCopyS (dc := dc) (sc := sc) o.type x hn hsrc hfit h1
  refine wpList_run hgd ?_ (h _ (x.setRow _))
  simp only [execOp, ho, resolve, invoke, builtin, Sem.run_bind, Sem.run_pure, Result.andThen_ok, List.map_toArray, List.map_cons, List.map_nil, hd, hs, hr]
theorem wp_copyS {K : Act → World → Prop} (d s : Operand) (ho : o.op = .call { callee := .builtin .copy, args := #[d, s], argTypes := #[91, 91] })
    (x : Sat E w (pt g (.cells cur 90) :: L)) (hd : ac.eval d = .slice (some ⟨g, off, none⟩) dl dc) (hs : ac.eval s = .slice (some ⟨b, so, none⟩) sl sc) (cs : List Value) (hn : cs.length = Nat.min sl dl)
    (hsrc : ∀ (j : Nat) (v : Value), cs[j]? = some v → w.cell? ⟨b, so + j, none⟩ = some v) (hfit : off + cs.length ≤ cur.size) (h1 : ∀ v ∈ cs, v.oneCell' = true)
    (h : ∀ w', Sat E w' (pt g (.cells (cur.toList.take off ++ cs ++ cur.toList.drop (off + cs.length)).toArray 90) :: L) → K (ac.put o.dst (.int .i64 cs.length)) w') : o.wp Tryz.prog ac w K Q := by
  have hr := runCopyS (dc := dc) (sc := sc) o.type x hn hsrc hfit h1
  unfold Oper.wp execOp
  simp only [ho, resolve, invoke, builtin, Sem.run_bind, Sem.run_pure, Result.andThen_ok, List.map_toArray, List.map_cons, List.map_nil, hd, hs, hr]
  exact h _ (x.setRow _)
end

set_option maxRecDepth 100000 in
set_option maxHeartbeats 800000 in
theorem repeatS_ok {E W : World} {L : List HP} {q c n : Nat} {s : ByteArray} (x : Sat E W (pt q (.cells #[.string s] 90) :: L)) (h1 : 1 ≤ n) (h2 : n ≤ 65536) :
    Calls Tryz.prog 55 #[.slice (some ⟨q, 0, none⟩) 1 c, .int .i64 n] W fun e w' => ∃ g, e = .returned (.slice (some ⟨g, 0, none⟩) n n) ∧
      Sat E w' (row 90 1 (.slice (some ⟨g, 0, none⟩) n n) n (List.replicate n (.string s)) :: pt q (.cells #[.string s] 90) :: L) := by
  have HX := Lib.hid x
  clear x
  go_enter Tryz.func55, Tryz.ntmps55
  go_wp2_with (first
    | (go_at_call 78; refine (Tryz.bits_Mul 1 n (by omega) (by omega) _).mono ?_; rintro e w2 ⟨rfl, rfl⟩; rw [Nat.one_mul, Nat.div_eq_of_lt (by omega), Nat.mod_eq_of_lt (by omega)])
    | (at_make; refine wpList_madeS rfl _ _ rfl n (by omega) rfl rfl ?_; have HM := Lib.hid (HX.out.alloc (.cells (madeCells #[.string ByteArray.empty] n) 90)))
    | (refine wpList_copyS rfl _ _ rfl HM.out rfl rfl [.string s] (by simp [Nat.min_def]; omega) (fun j v hj => by
        obtain rfl : j = 0 := by have := (List.getElem?_eq_some_iff.1 hj).1; simp at this; exact this
        cases hj; exact cell_blk HM.out.p1.at 0) (by simp [size_madeCells]; omega) (by simp [Value.oneCell']) ?_; intro w3 hx3))
  obtain ⟨g, hg⟩ : ∃ g, w2.heap.size = g := ⟨_, rfl⟩
  rw [hg] at hx3 ⊢
  rw [made_list, show (List.replicate n (Value.string ByteArray.empty)).take 0 ++ [.string s] ++ (List.replicate n (Value.string ByteArray.empty)).drop (0 + [Value.string s].length) = halfRow n 1 s by
    simp [halfRow]] at hx3
  clear hg HM
  go_loopw [8] (fun i wr => ∃ m : Nat, 1 ≤ m ∧ m ≤ n ∧ i = .int .i64 m ∧ Sat E wr (pt g (.cells (halfRow n m s).toArray 90) :: pt q (.cells #[.string s] 90) :: L)) (fun i _ => n - (intOf i).toNat)
  case atStart => exact ⟨1, by omega, by omega, rfl, hx3⟩
  case round =>
    clear hx3
    obtain ⟨m, hm1, hm2, rfl, hx⟩ := hrel
    have HXR := Lib.hid hx
    clear hx
    by_cases hlt : m < n
    · have hne : ¬ n = m := by omega
      have h0m : 0 ≤ (m : Int) := by omega
      have hmn : (m : Int) ≤ (n : Int) := by omega
      go_wp2
      refine wp_region_planL [(0, true), (1, true), (2, true), (3, true), (4, true), (5, true), (6, true), (7, false), (8, true), (9, true)] [] (by kernel_rfl) (by kernel_rfl) (by intro c a d v w h; cases d <;> exact h) trivial ?_
      simp only [planOps, List.getElem?_cons_zero, List.getElem?_cons_succ]
      iterate 7 ((apply plan_pure rfl; (intro w1; go_simp; try go_bits); with_reducible rfl); try simp only [Act.put, List.setIfInBounds_toArray, List.set_cons_zero, List.set_cons_succ])
      obtain ⟨j, hj⟩ : ∃ j, min m (n - m) = j := ⟨_, rfl⟩
      have hj1 : 1 ≤ j := by omega
      have hj2 : m + j ≤ n := by omega
      have hj3 : j ≤ m := by omega
      refine plan_loud rfl (fun K hK => ?_)
      refine wp_copyS _ _ rfl HXR.out.drew rfl rfl (List.replicate j (.string s)) (by rw [List.length_replicate]; exact hj.symm) (fun i v hi => by
        have hij := (List.getElem?_eq_some_iff.1 hi).1
        rw [List.length_replicate] at hij
        rw [List.getElem?_replicate, if_pos hij] at hi
        cases hi
        rw [Nat.zero_add, cell_blk HXR.out.drew.at]
        simpa using halfRow_get (n := n) (m := m) s (j := i) (by omega)) (by simp [halfRow_len hm2]; omega) (by simp [Value.oneCell']) ?_
      intro w4 hx4
      rw [List.length_replicate] at hx4
      rw [show (halfRow n m s).toArray.toList = halfRow n m s from rfl, halfRow_step hj2] at hx4
      rw [List.length_replicate]
      refine hK _ _ trivial ?_
      clear hK K
      have HX4 := Lib.hid hx4
      clear hx4 hj
      try simp only [Act.put, List.setIfInBounds_toArray, List.set_cons_zero, List.set_cons_succ]
      iterate 2 ((apply plan_pure rfl; (intro w1; go_simp; try go_bits); with_reducible rfl); try simp only [Act.put, List.setIfInBounds_toArray, List.set_cons_zero, List.set_cons_succ])
      refine plan_nil ?_
      go_wp2
      refine ⟨⟨m + j, by omega, by omega, by go_num, HX4.out⟩, by simp [intOf]; omega⟩
    · have hmn : m = n := by omega
      have HMN := Lib.hid hmn
      clear hmn
      go_wp2
      go_ret
      refine ⟨g, rfl, ?_⟩
      have h := HXR.out
      rw [HMN.out] at h
      exact h.rowMk (Nat.le_refl _) (by unfold maxLen; omega) (by simp [halfRow]) (by simp [halfRow])

def newD (n : Nat) : Dk := { kept := List.replicate n (zeros 128), wait := [], fuse := -1, dead := false, writes := 0, barriers := 0 }
theorem newD_ok {n : Nat} (h2 : n ≤ 65536) : OkD (newD n) :=
  ⟨by show (-1 : Int) ≤ -1; omega, by show (-1 : Int) ≤ _; omega, by show (0 : Int) ≤ 0; omega, by show (0 : Int) ≤ _; omega, by show (0 : Int) ≤ 0; omega, by show (0 : Int) ≤ _; omega, by show 0 ≤ _; omega, by simp [newD]; omega, fun x hx => by simp [newD] at hx⟩

set_option maxRecDepth 100000 in
set_option maxHeartbeats 800000 in
theorem new_ok {E W : World} {L : List HP} {n : Nat} (x : Sat E W L) (h1 : 1 ≤ n) (h2 : n ≤ 65536) :
    Calls Tryz.prog 17 #[.int .i64 n] W fun e w' => ∃ b, e = .returned (.tuple #[.pointer (some ⟨b, 0, none⟩), .int .i64 0]) ∧ Sat E w' (isDisk b (newD n) :: L) := by
  have HX := Lib.hid x
  clear x
  obtain ⟨z, hz⟩ : ∃ z, zeros 128 = z := ⟨_, rfl⟩
  have HR := Lib.hid (fun W => hz ▸ repeat_ok 128 (by omega) W)
  have HZ := Lib.hid hz
  clear hz
  go_enter Tryz.func17, Tryz.ntmps17
  go_wp2_with (first
    | (go_at_call 41; refine (HR.out _).mono ?_; rintro e w2 ⟨rfl, hb⟩; have hx2 := (((HX.out.ofBelow hb).alloc (.cells #[.string z] 90)).alloc (.cells #[.string z] 90)); rw [World.size_alloc] at hx2; have HX2 := Lib.hid hx2; clear hb hx2)
    | (go_at_call 55; refine (repeatS_ok (c := 1) HX2.out h1 h2).mono ?_; rintro e w3 ⟨g, rfl, hx3⟩; have HX3 := Lib.hid hx3; clear hx3))
  go_ret2
  refine ⟨_, rfl, ?_⟩
  have h := ((HX3.out.alloc (diskObj (.slice (some ⟨g, 0, none⟩) n n) (.slice none 0 0) (newD n))).p2.tail.p2.tail.rowNil 149 2).p2.p2
  refine disk_close (vk := .slice (some ⟨g, 0, none⟩) n n) (vw := .slice none 0 0) ?_
  have e1 : (newD n).kept.length = n := by simp [newD]
  have e2 : sects (newD n).kept = List.replicate n (.string z) := by simp [newD, sects, HZ.out]
  rw [e1, e2]
  exact h
theorem new_bad {W : World} {n : Int} (h : n < 1 ∨ 65536 < n) : Calls Tryz.prog 17 #[.int .i64 n] W fun e w' => e = .returned (.tuple #[.pointer none, .int .i64 3]) ∧ w' = W := by
  rcases h with h | h
  · go_enter Tryz.func17, Tryz.ntmps17
    go_wp2
    go_ret2
    exact ⟨rfl, rfl⟩
  · go_enter Tryz.func17, Tryz.ntmps17
    go_wp2
    all_goals go_ret2
    all_goals exact ⟨rfl, rfl⟩
end Go.Proofs.YtmkpglabiikdeaaGreatDoor

