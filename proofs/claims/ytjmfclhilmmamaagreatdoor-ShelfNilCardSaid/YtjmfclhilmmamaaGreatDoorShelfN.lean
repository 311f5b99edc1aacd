/-
  Layer 28: of no shelf there is nothing: its methods.
-/
import Derived.Tactics
import Derived.Tactics2
import Derived.OwnWalk
import Derived.Test.YtjmfclhilmmamaaGreatDoorPost
import Derived.Test.YtjmfclhilmmamaaGreatDoorProg
namespace Go.Proofs.YtjmfclhilmmamaaGreatDoor
open Go.RowKit PH
set_option maxRecDepth 100000 in
theorem held_nil {E W : World} {L : List HP} (x : Sat E W L) (a b : Int) : Calls Tryz.prog 21 #[.pointer none, .int .i64 a, .int .i64 b] W fun e w' => e = .returned (.tuple #[.string ByteArray.empty, .bool false]) ∧ Sat E w' L := by
  have HX := Lib.hid x
  clear x
  go_enter Tryz.func21, Tryz.ntmps21
  go_wp2
  first | go_ret | go_ret2
  exact ⟨rfl, (by first | exact HX.out | exact (HX.out.alloc _).tail | exact ((HX.out.alloc _).tail.alloc _).tail | exact (((HX.out.alloc _).tail.alloc _).tail.alloc _).tail | exact ((((HX.out.alloc _).tail.alloc _).tail.alloc _).tail.alloc _).tail | exact (((((HX.out.alloc _).tail.alloc _).tail.alloc _).tail.alloc _).tail.alloc _).tail)⟩
set_option maxRecDepth 100000 in
theorem know_nil {E W : World} {L : List HP} (x : Sat E W L) (s t : ByteArray) : Calls Tryz.prog 22 #[.pointer none, .string s, .string t] W fun e w' => e = .returned (.bool false) ∧ Sat E w' L := by
  have HX := Lib.hid x
  clear x
  go_enter Tryz.func22, Tryz.ntmps22
  go_wp2
  first | go_ret | go_ret2
  exact ⟨rfl, (by first | exact HX.out | exact (HX.out.alloc _).tail | exact ((HX.out.alloc _).tail.alloc _).tail | exact (((HX.out.alloc _).tail.alloc _).tail.alloc _).tail | exact ((((HX.out.alloc _).tail.alloc _).tail.alloc _).tail.alloc _).tail | exact (((((HX.out.alloc _).tail.alloc _).tail.alloc _).tail.alloc _).tail.alloc _).tail)⟩
set_option maxRecDepth 100000 in
theorem forget_nil {E W : World} {L : List HP} (x : Sat E W L) (s : ByteArray) : Calls Tryz.prog 23 #[.pointer none, .string s] W fun e w' => e = .returned (.bool false) ∧ Sat E w' L := by
  have HX := Lib.hid x
  clear x
  go_enter Tryz.func23, Tryz.ntmps23
  go_wp2
  first | go_ret | go_ret2
  exact ⟨rfl, (by first | exact HX.out | exact (HX.out.alloc _).tail | exact ((HX.out.alloc _).tail.alloc _).tail | exact (((HX.out.alloc _).tail.alloc _).tail.alloc _).tail | exact ((((HX.out.alloc _).tail.alloc _).tail.alloc _).tail.alloc _).tail | exact (((((HX.out.alloc _).tail.alloc _).tail.alloc _).tail.alloc _).tail.alloc _).tail)⟩
set_option maxRecDepth 100000 in
theorem node_nil {E W : World} {L : List HP} (x : Sat E W L) (s : ByteArray) : Calls Tryz.prog 24 #[.pointer none, .string s] W fun e w' => e = .returned (.tuple #[.string ByteArray.empty, .bool false]) ∧ Sat E w' L := by
  have HX := Lib.hid x
  clear x
  go_enter Tryz.func24, Tryz.ntmps24
  go_wp2
  first | go_ret | go_ret2
  exact ⟨rfl, (by first | exact HX.out | exact (HX.out.alloc _).tail | exact ((HX.out.alloc _).tail.alloc _).tail | exact (((HX.out.alloc _).tail.alloc _).tail.alloc _).tail | exact ((((HX.out.alloc _).tail.alloc _).tail.alloc _).tail.alloc _).tail | exact (((((HX.out.alloc _).tail.alloc _).tail.alloc _).tail.alloc _).tail.alloc _).tail)⟩
set_option maxRecDepth 100000 in
theorem tell_nil {E W : World} {L : List HP} (x : Sat E W L) (l : Value) (a b : Int) : Calls Tryz.prog 16 #[.pointer none, l, .int .i64 a, .int .i64 b] W fun e w' => e = .returned (.int .i64 1) ∧ Sat E w' L := by
  have HX := Lib.hid x
  clear x
  go_enter Tryz.func16, Tryz.ntmps16
  go_wp2
  first | go_ret | go_ret2
  exact ⟨rfl, (by first | exact HX.out | exact (HX.out.alloc _).tail | exact ((HX.out.alloc _).tail.alloc _).tail | exact (((HX.out.alloc _).tail.alloc _).tail.alloc _).tail | exact ((((HX.out.alloc _).tail.alloc _).tail.alloc _).tail.alloc _).tail | exact (((((HX.out.alloc _).tail.alloc _).tail.alloc _).tail.alloc _).tail.alloc _).tail)⟩
set_option maxRecDepth 100000 in
theorem doubt_nil {E W : World} {L : List HP} (x : Sat E W L) (l : Value) : Calls Tryz.prog 25 #[.pointer none, l] W fun e w' => e = .returned (.tuple #[]) ∧ Sat E w' L := by
  have HX := Lib.hid x
  clear x
  go_enter Tryz.func25, Tryz.ntmps25
  go_wp2
  (try simp only [Exit.inBlock, Exit.then])
  refine bodyPost_ret (results_none rfl _ _ _) rfl ?_
  exact ⟨rfl, (by first | exact HX.out | exact (HX.out.alloc _).tail | exact ((HX.out.alloc _).tail.alloc _).tail | exact (((HX.out.alloc _).tail.alloc _).tail.alloc _).tail | exact ((((HX.out.alloc _).tail.alloc _).tail.alloc _).tail.alloc _).tail | exact (((((HX.out.alloc _).tail.alloc _).tail.alloc _).tail.alloc _).tail.alloc _).tail)⟩
set_option maxRecDepth 100000 in
theorem name_nil {E W : World} {L : List HP} (x : Sat E W L) (k n c : ByteArray) (v : Int) : Calls Tryz.prog 26 #[.pointer none, .string k, .int .i64 v, .string n, .string c] W fun e w' => e = .returned (.int .i64 1) ∧ Sat E w' L := by
  have HX := Lib.hid x
  clear x
  go_enter Tryz.func26, Tryz.ntmps26
  go_wp2
  first | go_ret | go_ret2
  exact ⟨rfl, (by first | exact HX.out | exact (HX.out.alloc _).tail | exact ((HX.out.alloc _).tail.alloc _).tail | exact (((HX.out.alloc _).tail.alloc _).tail.alloc _).tail | exact ((((HX.out.alloc _).tail.alloc _).tail.alloc _).tail.alloc _).tail | exact (((((HX.out.alloc _).tail.alloc _).tail.alloc _).tail.alloc _).tail.alloc _).tail)⟩
set_option maxRecDepth 100000 in
theorem unname_nil {E W : World} {L : List HP} (x : Sat E W L) (k n : ByteArray) (v : Int) : Calls Tryz.prog 27 #[.pointer none, .string k, .int .i64 v, .string n] W fun e w' => e = .returned (.int .i64 1) ∧ Sat E w' L := by
  have HX := Lib.hid x
  clear x
  go_enter Tryz.func27, Tryz.ntmps27
  go_wp2
  first | go_ret | go_ret2
  exact ⟨rfl, (by first | exact HX.out | exact (HX.out.alloc _).tail | exact ((HX.out.alloc _).tail.alloc _).tail | exact (((HX.out.alloc _).tail.alloc _).tail.alloc _).tail | exact ((((HX.out.alloc _).tail.alloc _).tail.alloc _).tail.alloc _).tail | exact (((((HX.out.alloc _).tail.alloc _).tail.alloc _).tail.alloc _).tail.alloc _).tail)⟩
set_option maxRecDepth 100000 in
theorem child_nil {E W : World} {L : List HP} (x : Sat E W L) (k n : ByteArray) : Calls Tryz.prog 28 #[.pointer none, .string k, .string n] W fun e w' => e = .returned (.tuple #[.string ByteArray.empty, .bool false]) ∧ Sat E w' L := by
  have HX := Lib.hid x
  clear x
  go_enter Tryz.func28, Tryz.ntmps28
  go_wp2
  first | go_ret | go_ret2
  exact ⟨rfl, (by first | exact HX.out | exact (HX.out.alloc _).tail | exact ((HX.out.alloc _).tail.alloc _).tail | exact (((HX.out.alloc _).tail.alloc _).tail.alloc _).tail | exact ((((HX.out.alloc _).tail.alloc _).tail.alloc _).tail.alloc _).tail | exact (((((HX.out.alloc _).tail.alloc _).tail.alloc _).tail.alloc _).tail.alloc _).tail)⟩
set_option maxRecDepth 100000 in
theorem fill_nil {E W : World} {L : List HP} (x : Sat E W L) (k d : ByteArray) (v n : Int) : Calls Tryz.prog 29 #[.pointer none, .string k, .int .i64 v, .int .i64 n, .string d] W fun e w' => e = .returned (.int .i64 1) ∧ Sat E w' L := by
  have HX := Lib.hid x
  clear x
  go_enter Tryz.func29, Tryz.ntmps29
  go_wp2
  first | go_ret | go_ret2
  exact ⟨rfl, (by first | exact HX.out | exact (HX.out.alloc _).tail | exact ((HX.out.alloc _).tail.alloc _).tail | exact (((HX.out.alloc _).tail.alloc _).tail.alloc _).tail | exact ((((HX.out.alloc _).tail.alloc _).tail.alloc _).tail.alloc _).tail | exact (((((HX.out.alloc _).tail.alloc _).tail.alloc _).tail.alloc _).tail.alloc _).tail)⟩
set_option maxRecDepth 100000 in
theorem empty_nil {E W : World} {L : List HP} (x : Sat E W L) (k : ByteArray) (v n : Int) : Calls Tryz.prog 30 #[.pointer none, .string k, .int .i64 v, .int .i64 n] W fun e w' => e = .returned (.int .i64 1) ∧ Sat E w' L := by
  have HX := Lib.hid x
  clear x
  go_enter Tryz.func30, Tryz.ntmps30
  go_wp2
  first | go_ret | go_ret2
  exact ⟨rfl, (by first | exact HX.out | exact (HX.out.alloc _).tail | exact ((HX.out.alloc _).tail.alloc _).tail | exact (((HX.out.alloc _).tail.alloc _).tail.alloc _).tail | exact ((((HX.out.alloc _).tail.alloc _).tail.alloc _).tail.alloc _).tail | exact (((((HX.out.alloc _).tail.alloc _).tail.alloc _).tail.alloc _).tail.alloc _).tail)⟩
set_option maxRecDepth 100000 in
theorem data_nil {E W : World} {L : List HP} (x : Sat E W L) (k : ByteArray) (o c : Int) : Calls Tryz.prog 31 #[.pointer none, .string k, .int .i64 o, .int .i64 c] W fun e w' => e = .returned (.tuple #[.string ByteArray.empty, .bool false]) ∧ Sat E w' L := by
  have HX := Lib.hid x
  clear x
  go_enter Tryz.func31, Tryz.ntmps31
  go_wp2
  first | go_ret | go_ret2
  exact ⟨rfl, (by first | exact HX.out | exact (HX.out.alloc _).tail | exact ((HX.out.alloc _).tail.alloc _).tail | exact (((HX.out.alloc _).tail.alloc _).tail.alloc _).tail | exact ((((HX.out.alloc _).tail.alloc _).tail.alloc _).tail.alloc _).tail | exact (((((HX.out.alloc _).tail.alloc _).tail.alloc _).tail.alloc _).tail.alloc _).tail)⟩
set_option maxRecDepth 100000 in
theorem block_nil {E W : World} {L : List HP} (x : Sat E W L) (k : ByteArray) (n : Int) : Calls Tryz.prog 32 #[.pointer none, .string k, .int .i64 n] W fun e w' => e = .returned (.tuple #[.string ByteArray.empty, .bool false]) ∧ Sat E w' L := by
  have HX := Lib.hid x
  clear x
  go_enter Tryz.func32, Tryz.ntmps32
  go_wp2
  first | go_ret | go_ret2
  exact ⟨rfl, (by first | exact HX.out | exact (HX.out.alloc _).tail | exact ((HX.out.alloc _).tail.alloc _).tail | exact (((HX.out.alloc _).tail.alloc _).tail.alloc _).tail | exact ((((HX.out.alloc _).tail.alloc _).tail.alloc _).tail.alloc _).tail | exact (((((HX.out.alloc _).tail.alloc _).tail.alloc _).tail.alloc _).tail.alloc _).tail)⟩
set_option maxRecDepth 100000 in
theorem barrier_nil {E W : World} {L : List HP} (x : Sat E W L)  : Calls Tryz.prog 33 #[.pointer none] W fun e w' => e = .returned (.int .i64 1) ∧ Sat E w' L := by
  have HX := Lib.hid x
  clear x
  go_enter Tryz.func33, Tryz.ntmps33
  go_wp2
  first | go_ret | go_ret2
  exact ⟨rfl, (by first | exact HX.out | exact (HX.out.alloc _).tail | exact ((HX.out.alloc _).tail.alloc _).tail | exact (((HX.out.alloc _).tail.alloc _).tail.alloc _).tail | exact ((((HX.out.alloc _).tail.alloc _).tail.alloc _).tail.alloc _).tail | exact (((((HX.out.alloc _).tail.alloc _).tail.alloc _).tail.alloc _).tail.alloc _).tail)⟩
set_option maxRecDepth 100000 in
theorem epoch_nil {E W : World} {L : List HP} (x : Sat E W L)  : Calls Tryz.prog 11 #[.pointer none] W fun e w' => e = .returned (.int .i64 0) ∧ Sat E w' L := by
  have HX := Lib.hid x
  clear x
  go_enter Tryz.func11, Tryz.ntmps11
  go_wp2
  first | go_ret | go_ret2
  exact ⟨rfl, (by first | exact HX.out | exact (HX.out.alloc _).tail | exact ((HX.out.alloc _).tail.alloc _).tail | exact (((HX.out.alloc _).tail.alloc _).tail.alloc _).tail | exact ((((HX.out.alloc _).tail.alloc _).tail.alloc _).tail.alloc _).tail | exact (((((HX.out.alloc _).tail.alloc _).tail.alloc _).tail.alloc _).tail.alloc _).tail)⟩
set_option maxRecDepth 100000 in
theorem cache_nil {E W : World} {L : List HP} (x : Sat E W L)  : Calls Tryz.prog 10 #[.pointer none] W fun e w' => e = .returned (.agg #[.slice none 0 0, .slice none 0 0, .slice none 0 0, .slice none 0 0]) ∧ Sat E w' L := by
  have HX := Lib.hid x
  clear x
  go_enter Tryz.func10, Tryz.ntmps10
  go_wp2
  (try simp only [Exit.inBlock, Exit.then])
  exact post_row rfl W.heap.size 44 _ (0, 0) _ rfl (heap_alloc_new W _) Tryz.underlying44 rfl (by kernel_rfl) rfl ⟨rfl, (HX.out.alloc _).tail⟩
set_option maxRecDepth 100000 in
theorem issue_nil {E W : World} {L : List HP} (x : Sat E W L) (s : ByteArray) : Calls Tryz.prog 20 #[.pointer none, .string s] W fun e w' => e = .returned (.tuple #[.agg #[.int .i64 0, .int .i64 0, .string ByteArray.empty], .int .i64 1]) ∧ Sat E w' L := by
  have HX := Lib.hid x
  clear x
  go_enter Tryz.func20, Tryz.ntmps20
  go_wp2
  (try simp only [Exit.inBlock, Exit.then])
  exact post_row2 rfl W.heap.size 35 _ (0, 0) _ rfl (heap_alloc_new W _) Tryz.underlying35 rfl (by kernel_rfl) rfl ⟨rfl, (HX.out.alloc _).tail⟩
set_option maxRecDepth 100000 in
theorem fresh_nil {E W : World} {L : List HP} (x : Sat E W L) (s : ByteArray) : Calls Tryz.prog 19 #[.pointer none, .string s] W fun e w' => e = .returned (.tuple #[.agg #[.int .i64 0, .int .i64 0, .int .i64 0, .int .i64 0, .int .i64 0, .int .i64 0, .int .i64 0, .int .i64 0, .int .i64 0, .int .i64 0], .bool false]) ∧ Sat E w' L := by
  have HX := Lib.hid x
  clear x
  go_enter Tryz.func19, Tryz.ntmps19
  go_wp2
  (try simp only [Exit.inBlock, Exit.then])
  exact post_row2 rfl W.heap.size 23 _ (0, 0) _ rfl (heap_alloc_new W _) Tryz.underlying23 rfl (by kernel_rfl) rfl ⟨rfl, (HX.out.alloc _).tail⟩
end Go.Proofs.YtjmfclhilmmamaaGreatDoor
