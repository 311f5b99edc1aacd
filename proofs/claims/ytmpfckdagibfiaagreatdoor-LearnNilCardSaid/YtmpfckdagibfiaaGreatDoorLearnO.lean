/-
  Layer 31: no shelf learns nothing; the law, walked.
-/
import Derived.Test.YtmpfckdagibfiaaGreatDoorLearnL
import Derived.Test.YtmpfckdagibfiaaGreatDoorRecK
namespace Go.Proofs.YtmpfckdagibfiaaGreatDoor
open Go.RowKit PH

theorem known_ok (W : World) : Calls Tryz.prog 5 #[] W fun e w' => e = .returned (.bool true) ∧ Below W.heap.size W w' :=
  (PH.R.known_reck W).mono fun e w' h => by
    cases e <;> first | exact ⟨by rw [h.1], h.2⟩ | cases h
def TrueBelow (w : World) (e : Ending) (w' : World) : Prop := e = .returned (.bool true) ∧ Below w.heap.size w w'
theorem to_known {W w w' : World} {L : List HP} (x : Sat W w (heapIs W :: L)) (hb : Below w.heap.size w w') : Below W.heap.size W w' := (x.ofBelow hb).below
set_option maxRecDepth 100000 in
theorem learn_nil {E W : World} {L : List HP} (x : Sat E W L) (C R : List Value) (n m : Int) : Calls Tryz.prog 6 #[.pointer none, .agg C.toArray, .agg R.toArray, .int .i64 n, .int .i64 m] W fun e w' => e = .returned (.int .i64 1) ∧ Sat E w' L := by
  have HX := Lib.hid x
  clear x
  go_enter Tryz.func6, Tryz.ntmps6
  go_wp2
  all_goals (go_ret; exact ⟨rfl, ((HX.out.alloc _).tail.alloc _).tail⟩)
set_option maxRecDepth 100000 in
set_option maxHeartbeats 1600000 in
theorem learnNil_ok {S C R : List Value} {n m : Int} {u en : Option Addr} {ul uc enl : Nat} (hS : StepL S C R n m u ul uc) (hcl : CallL C) (hrl : ReplyL R en enl) (W : World) (he : EntSrc W en enl) (hu : ul ≤ 9223372036854775807) :
    Calls Tryz.prog 3 #[.agg S.toArray] W (TrueBelow W) := by
  have HS := Lib.hid hS
  have HE := Lib.hid he
  have hc24 : (Tryz.prog.info? 27).map (·.size) = some C.length := by rw [hS.cl]; kernel_rfl
  have hr58 : (Tryz.prog.info? 38).map (·.size) = some R.length := by rw [hS.rl]; kernel_rfl
  have hs85 : (Tryz.prog.info? 41).map (·.size) = some S.length := by rw [hS.all]; kernel_rfl
  have hb85 : ((Tryz.prog.info? 41).bind fun i => i.zero.map fun _ => i.size) = some 85 := by kernel_rfl
  clear hS he
  go_enter Tryz.func3, Tryz.ntmps3
  have hS1 : S.length = 85 := HS.out.all
  have h01 : 0 < 85 := by omega
  have hm1 : 85 ≤ 1000 := by omega
  have r0 : ∀ w : World, (w.alloc (.cells S.toArray 41)).rangeAt w.heap.size 0 S := fun w => range_blk (heap_alloc_new w _) (fun j v hj => by rw [Nat.zero_add]; exact hj)
  have hx0 : Sat W ((W.alloc (.cells S.toArray 41)).alloc (.cells S.toArray 41)) [heapIs W, pt (W.heap.size + 1) (.cells S.toArray 41), pt W.heap.size (.cells S.toArray 41)] := by
    have h := (((Sat.start W).alloc (.cells S.toArray 41)).alloc (.cells S.toArray 41)).p2
    rw [World.size_alloc] at h
    exact h
  have HX0 := Lib.hid hx0
  clear hx0
  go_wp2_with (first
    | (with_reducible refine wpl_load 41 _ 0 S _ ?_ (r0 W) Tryz.underlying41 rfl hs85 ?_)
    | (with_reducible refine wpl_slice1 43 41 S 85 ?_ hS1 h01 hm1 Tryz.underlying43 hb85 ?_)
    | (with_reducible refine wpl_load 27 W.heap.size 0 C _ ?_ rc Tryz.underlying27 rfl hc24 ?_)
    | (with_reducible refine wpl_load 38 W.heap.size 24 R _ ?_ rr Tryz.underlying38 rfl hr58 ?_)
    | (go_at_call 4; refine (large31 HS.out hcl hrl HX0.out HE.out hu).mono ?_; rintro e w2 ⟨⟨b2, rfl⟩, hx2⟩; have rc : w2.rangeAt W.heap.size 0 C := range_blk hx2.p2.at (fun j v hj => by rw [Nat.zero_add]; exact HS.out.c j v hj); have rr : w2.rangeAt W.heap.size 24 R := range_blk hx2.p2.at (fun j v hj => HS.out.r j v hj); have c82 : w2.cell? ⟨W.heap.size, 82, none⟩ = some (.int .i64 n) := (by rw [cell_blk hx2.p2.at]; simpa using HS.out.n); have c83 : w2.cell? ⟨W.heap.size, 83, none⟩ = some (.int .i64 m) := (by rw [cell_blk hx2.p2.at]; simpa using HS.out.m); have HX2 := Lib.hid hx2; clear hx2)
    | (go_at_call 6; refine (learn_nil HX2.out C R n m).mono ?_; rintro e w3 ⟨rfl, hx3⟩; have HX3 := Lib.hid hx3; clear hx3)
    | (go_at_call 5; refine (known_ok _).mono ?_; rintro e w' ⟨rfl, hbl⟩))
  all_goals first
    | rfl
    | (go_ret; exact ⟨rfl, to_known HX3.out hbl⟩)
    | (go_ret; exact ⟨rfl, to_known HX2.out hbl⟩)
end Go.Proofs.YtmpfckdagibfiaaGreatDoor
