/-
  Layer 28: the law ShelfNil, walked.
-/
import Derived.Test.YtjmfclhilmmamaaGreatDoorShelfO
import Derived.Test.YtjmfclhilmmamaaGreatDoorRecK
namespace Go.Proofs.YtjmfclhilmmamaaGreatDoor
open Go.RowKit PH

theorem known_ok (W : World) : Calls Tryz.prog 7 #[] W fun e w' => e = .returned (.bool true) ∧ Below W.heap.size W w' :=
  (PH.R.known_reck W).mono fun e w' h => by
    cases e <;> first | exact ⟨by rw [h.1], h.2⟩ | cases h
def TrueBelow (w : World) (e : Ending) (w' : World) : Prop := e = .returned (.bool true) ∧ Below w.heap.size w w'
theorem to_known {W w w' : World} {L : List HP} (x : Sat W w (heapIs W :: L)) (hb : Below w.heap.size w w') : Below W.heap.size W w' := (x.ofBelow hb).below
set_option maxRecDepth 10000 in
theorem run_fieldCache (w : World) : (Instr.field 44 (.agg #[.slice none 0 0, .slice none 0 0, .slice none 0 0, .slice none 0 0]) 1).run Tryz.prog w = .ok (.slice none 0 0) w := by
  kernel_rfl
theorem do_nil' {E W : World} {L : List HP} (x : Sat E W L) (kd r : Int) (hr : (if silentK kd then 0 else 1) = r) (up key name text : ByteArray) (n m : Int) (l : Value) (hl : WccSrc W l) : Calls Tryz.prog 9 #[.pointer none, .agg #[.int .i64 kd, .string up, .string key, .string name, .string text, .int .i64 n, .int .i64 m, l]] W fun e w' => e = .returned (.agg (ansR r)) ∧ Sat E w' L := by
  subst hr
  exact do_nil x kd up key name text n m l hl
set_option maxRecDepth 100000 in
set_option maxHeartbeats 1600000 in
theorem shelfNil_s (kd : Int) (hs : silentK kd = true) (up key name text : ByteArray) (n m : Int) (a : Option Addr) (len cap : Nat) (W : World) (hl : len ≤ 10 → WccSrc W (.slice a len cap))
    (s1 : up.size ≤ 9223372036854775807) (s2 : key.size ≤ 9223372036854775807) (s3 : name.size ≤ 9223372036854775807) (s4 : text.size ≤ 9223372036854775807) :
    Calls Tryz.prog 4 #[.agg #[.int .i64 kd, .string up, .string key, .string name, .string text, .int .i64 n, .int .i64 m, .slice a len cap]] W (TrueBelow W) := by
  have HL := Lib.hid hl
  have hs2 : (kd == 2 || kd == 3 || kd == 4 || kd == 5 || kd == 7 || kd == 8 || kd == 11 || kd == 14 || kd == 15) = true := hs
  clear hl
  go_enter Tryz.func4, Tryz.ntmps4
  go_wp2_with (first
    | (go_at_call 8; refine (large2 (up := up) (key := key) (name := name) (text := text) (a := a) (len := len) (cap := cap) (by go_simp) (by go_simp) (by go_simp) (by go_simp) (by go_simp) s1 s2 s3 s4).mono ?_; rintro e w1 ⟨b, rfl, hb, rfl⟩)
    | (go_at_call 9; refine (do_nil' (((Sat.start W).alloc _).alloc _) kd 0 (by rw [hs]; rfl) up key name text n m _ (((HL.out (hb (by assumption))).alloc _).alloc _)).mono ?_; rintro e w2 ⟨rfl, hx2⟩; have hlt : W.heap.size < w2.heap.size := hx2.p1.lt; have hc : ∀ i, w2.cell? ⟨W.heap.size, i, none⟩ = (#[.int .i64 kd, .string up, .string key, .string name, .string text, .int .i64 n, .int .i64 m, .slice a len cap] : Array Value)[i]? := (fun i => cell_blk hx2.p1.at i); have hca : ∀ o i, (w2.alloc o).cell? ⟨W.heap.size, i, none⟩ = (#[.int .i64 kd, .string up, .string key, .string name, .string text, .int .i64 n, .int .i64 m, .slice a len cap] : Array Value)[i]? := (fun o i => (by rw [World.cell?_alloc_lt _ _ _ hlt]; exact hc i)); have HX2 := Lib.hid hx2; clear hx2)
    | (go_at_call 10; refine (cache_nil (HX2.out.alloc _)).mono ?_; rintro e w4 ⟨rfl, hx4⟩; have HX4 := Lib.hid hx4; clear hx4)
    | (simp only [run_fieldCache, Result.andThen_ok]; go_simp)
    | (go_at_call 11; refine (epoch_nil HX4.out).mono ?_; rintro e w5 ⟨rfl, hx5⟩; have HX5 := Lib.hid hx5; clear hx5)
    | (go_at_call 7; refine (known_ok _).mono ?_; rintro e w' ⟨rfl, hbl⟩))
  all_goals (first
    | (go_ret; exact ⟨rfl, to_known HX5.out.p3 hbl⟩)
    | (go_ret; exact ⟨rfl, to_known (((Sat.start W).alloc _).alloc _).p2 hbl⟩)
    | (exfalso; clear HL hl; subst_vars; exact absurd hs2 (by decide))
    | (exfalso; subst_vars; exact absurd hs2 (by decide)))
set_option maxRecDepth 100000 in
set_option maxHeartbeats 1600000 in
theorem shelfNil_l (kd : Int) (hs : silentK kd = false) (up key name text : ByteArray) (n m : Int) (a : Option Addr) (len cap : Nat) (W : World) (hl : len ≤ 10 → WccSrc W (.slice a len cap))
    (s1 : up.size ≤ 9223372036854775807) (s2 : key.size ≤ 9223372036854775807) (s3 : name.size ≤ 9223372036854775807) (s4 : text.size ≤ 9223372036854775807) :
    Calls Tryz.prog 4 #[.agg #[.int .i64 kd, .string up, .string key, .string name, .string text, .int .i64 n, .int .i64 m, .slice a len cap]] W (TrueBelow W) := by
  have HL := Lib.hid hl
  have hs2 : (kd == 2 || kd == 3 || kd == 4 || kd == 5 || kd == 7 || kd == 8 || kd == 11 || kd == 14 || kd == 15) = false := hs
  clear hl
  go_enter Tryz.func4, Tryz.ntmps4
  go_wp2_with (first
    | (go_at_call 8; refine (large2 (up := up) (key := key) (name := name) (text := text) (a := a) (len := len) (cap := cap) (by go_simp) (by go_simp) (by go_simp) (by go_simp) (by go_simp) s1 s2 s3 s4).mono ?_; rintro e w1 ⟨b, rfl, hb, rfl⟩)
    | (go_at_call 9; refine (do_nil' (((Sat.start W).alloc _).alloc _) kd 1 (by rw [hs]; rfl) up key name text n m _ (((HL.out (hb (by assumption))).alloc _).alloc _)).mono ?_; rintro e w2 ⟨rfl, hx2⟩; have hlt : W.heap.size < w2.heap.size := hx2.p1.lt; have hc : ∀ i, w2.cell? ⟨W.heap.size, i, none⟩ = (#[.int .i64 kd, .string up, .string key, .string name, .string text, .int .i64 n, .int .i64 m, .slice a len cap] : Array Value)[i]? := (fun i => cell_blk hx2.p1.at i); have hca : ∀ o i, (w2.alloc o).cell? ⟨W.heap.size, i, none⟩ = (#[.int .i64 kd, .string up, .string key, .string name, .string text, .int .i64 n, .int .i64 m, .slice a len cap] : Array Value)[i]? := (fun o i => (by rw [World.cell?_alloc_lt _ _ _ hlt]; exact hc i)); have HX2 := Lib.hid hx2; clear hx2)
    | (go_at_call 10; refine (cache_nil (HX2.out.alloc _)).mono ?_; rintro e w4 ⟨rfl, hx4⟩; have HX4 := Lib.hid hx4; clear hx4)
    | (simp only [run_fieldCache, Result.andThen_ok]; go_simp)
    | (go_at_call 11; refine (epoch_nil HX4.out).mono ?_; rintro e w5 ⟨rfl, hx5⟩; have HX5 := Lib.hid hx5; clear hx5)
    | (go_at_call 7; refine (known_ok _).mono ?_; rintro e w' ⟨rfl, hbl⟩))
  all_goals (first
    | (go_ret; exact ⟨rfl, to_known HX5.out.p3 hbl⟩)
    | (go_ret; exact ⟨rfl, to_known (((Sat.start W).alloc _).alloc _).p2 hbl⟩)
    | (exfalso; clear HL hl; subst_vars; exact absurd hs2 (by decide))
    | (exfalso; subst_vars; exact absurd hs2 (by decide)))
theorem shelfNil_ok (kd : Int) (up key name text : ByteArray) (n m : Int) (a : Option Addr) (len cap : Nat) (W : World) (hl : len ≤ 10 → WccSrc W (.slice a len cap))
    (s1 : up.size ≤ 9223372036854775807) (s2 : key.size ≤ 9223372036854775807) (s3 : name.size ≤ 9223372036854775807) (s4 : text.size ≤ 9223372036854775807) :
    Calls Tryz.prog 4 #[.agg #[.int .i64 kd, .string up, .string key, .string name, .string text, .int .i64 n, .int .i64 m, .slice a len cap]] W (TrueBelow W) := by
  cases hs : silentK kd with
  | true => exact shelfNil_s kd hs up key name text n m a len cap W hl s1 s2 s3 s4
  | false => exact shelfNil_l kd hs up key name text n m a len cap W hl s1 s2 s3 s4
end Go.Proofs.YtjmfclhilmmamaaGreatDoor
