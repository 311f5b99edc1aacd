/-
  posthouse/disk.Disk: Read where nothing is read, Image, and the methods of no disk.
-/
import Derived.Test.YtmkpglabiikdeaaGreatDiskR
namespace Go.Proofs.YtmkpglabiikdeaaGreat
open Go.RowKit PH

set_option maxHeartbeats 400000 in
theorem read_no {E W : World} {L : List HP} {b : Nat} {D : Dk} (x : Sat E W (isDisk b D :: L)) (i : Int) (h0 : thereE D i ≠ 0) :
    Calls Tryz.prog 34 #[.pointer (some ⟨b, 0, none⟩), .int .i64 i] W fun e w' => e = .returned (.tuple #[.string ByteArray.empty, .int .i64 (thereE D i)]) ∧ Sat E w' (isDisk b D :: L) := by
  obtain ⟨t, ht⟩ : ∃ t, thereE D i = t := ⟨_, rfl⟩
  have HT := Lib.hid ht
  rw [ht] at h0 ⊢
  clear ht
  have hb : (t != 0) = true := by simp [h0]
  have XX := Lib.hid x
  have HX := Lib.hid (((x.alloc (.cells #[.int .i64 i] 3)).alloc (.cells #[.string ByteArray.empty] 9)).alloc (.cells #[.int .i64 0] 26))
  clear x
  go_enter Tryz.func34, Tryz.ntmps34
  go_wp2_with (go_at_call 25; refine (there_ok HX.out.p3 i).mono ?_; rintro e w2 ⟨rfl, rfl⟩; rw [HT.out])
  refine bodyPost_ret (v := .tuple #[.string ByteArray.empty, .int .i64 t]) (by simp [results, Tryz.results34, go_sem]; rfl) rfl ⟨rfl, ?_⟩
  exact (((XX.out.alloc _).alloc _).alloc _).tail.tail.tail

theorem read_nil {E W : World} {L : List HP} (x : Sat E W L) (i : Int) :
    Calls Tryz.prog 34 #[.pointer none, .int .i64 i] W fun e w' => e = .returned (.tuple #[.string ByteArray.empty, .int .i64 1]) ∧ Sat E w' L := by
  have XX := Lib.hid x
  have HX := Lib.hid (((x.alloc (.cells #[.int .i64 i] 3)).alloc (.cells #[.string ByteArray.empty] 9)).alloc (.cells #[.int .i64 0] 26))
  clear x
  go_enter Tryz.func34, Tryz.ntmps34
  go_wp2_with (go_at_call 25; refine (there_nil i).mono ?_; rintro e w2 ⟨rfl, rfl⟩)
  refine bodyPost_ret (v := .tuple #[.string ByteArray.empty, .int .i64 1]) (by simp [results, Tryz.results34, go_sem]; rfl) rfl ⟨rfl, ?_⟩
  exact (((XX.out.alloc _).alloc _).alloc _).tail.tail.tail

/-- A slice of strings in memory of its own. -/
def StrRow (v : Value) (l : List ByteArray) : HP := row 9 1 v l.length (sects l)

set_option maxRecDepth 100000 in
set_option maxHeartbeats 800000 in
theorem image_ok {E W : World} {L : List HP} {b : Nat} {D : Dk} (x : Sat E W (isDisk b D :: L)) (ok : OkD D) :
    Calls Tryz.prog 21 #[.pointer (some ⟨b, 0, none⟩)] W fun e w' => ∃ v, e = .returned v ∧ Sat E w' (StrRow v D.kept :: isDisk b D :: L) := by
  have HX := Lib.hid x
  have hkl : D.kept.length ≤ 1000000 := ok.kl
  clear ok
  obtain ⟨t, ht⟩ : ∃ t, madeB D = t := ⟨_, rfl⟩
  have HT := Lib.hid ht
  clear ht
  cases t
  · clear x
    have hk : D.kept = [] := by
      have := HT.out
      unfold madeB at this
      rw [decide_eq_false_iff_not] at this
      exact List.eq_nil_of_length_eq_zero (by omega)
    have HK := Lib.hid hk
    clear hk
    go_enter Tryz.func21, Tryz.ntmps21
    go_wp2_with (go_at_call 29; refine (made_ok HX.out).mono ?_; rintro e w2 ⟨rfl, rfl⟩; rw [HT.out])
    go_ret
    refine ⟨_, rfl, ?_⟩
    unfold StrRow
    rw [HK.out]
    exact HX.out.rowNil _ _
  · obtain ⟨ak, ck, aw, cw, hx, -, -⟩ := disk_open x
    have c0 := cell_blk hx.at 0
    have HO := Lib.hid hx
    clear hx x
    obtain ⟨n, hn⟩ : ∃ n, D.kept.length = n := ⟨_, rfl⟩
    have HN := Lib.hid hn
    rw [hn] at c0 hkl
    clear hn
    go_enter Tryz.func21, Tryz.ntmps21
    go_wp2_with (go_at_call 29; refine (made_ok HX.out).mono ?_; rintro e w2 ⟨rfl, rfl⟩; rw [HT.out])
    go_loopw [3, 14] (fun v i wr => ∃ k : Nat, k ≤ n ∧ i = .int .i64 k ∧ Sat E wr (row 9 1 v k (sects (D.kept.take k)) :: pt b (diskObj (.slice ak D.kept.length ck) (.slice aw D.wait.length cw) D) :: row 55 1 (.slice ak D.kept.length ck) D.kept.length (sects D.kept) ::
      row 70 2 (.slice aw D.wait.length cw) D.wait.length (waits D.wait) :: L)) (fun _ i _ => n - (intOf i).toNat)
    case atStart => exact ⟨0, by omega, rfl, HO.out.rowNil _ _⟩
    case round =>
      obtain ⟨k, hk, rfl, hx⟩ := hrel
      by_cases hlt : k < n
      · obtain ⟨s, hs⟩ : ∃ s, D.kept[k]? = some s := ⟨_, List.getElem?_eq_getElem (by rw [HN.out]; exact hlt)⟩
        obtain ⟨gk, ck', e, -, -, -, hsee⟩ := hx.p2.rowSees (by rw [HN.out]; omega)
        cases e
        have d0 := hsee k (.string s) (by simp [sects, hs])
        rw [Nat.zero_add] at d0
        have HXR := Lib.hid hx
        have HS := Lib.hid hs
        clear hx hsee hs c0
        rw [HN.out]
        go_wp2_with (at_builtin; refine wpList_app1 rfl _ _ 46 rfl (HXR.out.alloc (.cells #[.string s] 55)).tail 16 (.string ByteArray.empty) (by kernel_rfl) Tryz.underlying46 rfl rfl [.string s] (by rw [World.size_alloc]; rfl) rfl (by simp [Value.oneCell']) (by omega) (by omega) ?_; intro v' w3 hs3)
        refine ⟨⟨k + 1, by omega, by go_num, ?_⟩, by simp [intOf]; omega⟩
        rw [List.take_add_one, HS.out]
        rw [HN.out] at hs3
        simpa [sects] using hs3
      · have hkn : k = n := by omega
        have HXR := Lib.hid hx
        have HKN := Lib.hid hkn
        clear hx hkn
        go_wp2
        go_ret
        refine ⟨_, rfl, ?_⟩
        have h := HXR.out
        rw [HKN.out, ← HN.out, List.take_length] at h
        exact (disk_close (h.p3.p3.p3)).p1
end Go.Proofs.YtmkpglabiikdeaaGreat

