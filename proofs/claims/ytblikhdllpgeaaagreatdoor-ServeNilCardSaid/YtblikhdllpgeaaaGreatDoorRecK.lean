/-
  Functions without a body; and 'known', reckoned by the kernel.
-/
import Derived.Test.YtblikhdllpgeaaaGreatDoorRecF
import Derived.Test.YtblikhdllpgeaaaGreatDoorRecJ
namespace PH.R
open Go Go.Proofs Go.RowKit
set_option maxRecDepth 100000
noncomputable section
theorem x182 : ∀ x, q182 = .ext x → ∃ fn s, PP.funcs[182]? = some fn ∧ (fn.name == "runtime.NumGoroutine") = false ∧ fn.body = none ∧ Extern.findNext fn = none ∧ Extern.find fn = some s ∧ extSem PP x fn.resultTypes s := fun x hx => by
  cases hx
  exact ⟨Tryz.f182, Extern.Atomic.update (Op.intArith .add) .i64 true, Tryz.func182, by kernel_rfl, by kernel_rfl, by kernel_rfl, by kernel_rfl, rfl⟩
theorem x231 : ∀ x, q231 = .ext x → ∃ fn s, PP.funcs[231]? = some fn ∧ (fn.name == "runtime.NumGoroutine") = false ∧ fn.body = none ∧ Extern.findNext fn = none ∧ Extern.find fn = some s ∧ extSem PP x fn.resultTypes s := fun x hx => by
  cases hx
  exact ⟨Tryz.f231, Extern.AbiNoEscape.same, Tryz.func231, by kernel_rfl, by kernel_rfl, by kernel_rfl, by kernel_rfl, rfl⟩
theorem x232 : ∀ x, q232 = .ext x → ∃ fn s, PP.funcs[232]? = some fn ∧ (fn.name == "runtime.NumGoroutine") = false ∧ fn.body = none ∧ Extern.findNext fn = none ∧ Extern.find fn = some s ∧ extSem PP x fn.resultTypes s := fun x hx => by
  cases hx
  exact ⟨Tryz.f232, Extern.BytealgMakeNoZero.makeNoZero Tryz.f232.params Tryz.f232.resultTypes, Tryz.func232, by kernel_rfl, by kernel_rfl, by kernel_rfl, by kernel_rfl, ⟨_, rfl, 210, by kernel_rfl, by kernel_rfl⟩⟩
theorem x248 : ∀ x, q248 = .ext x → ∃ fn s, PP.funcs[248]? = some fn ∧ (fn.name == "runtime.NumGoroutine") = false ∧ fn.body = none ∧ Extern.findNext fn = none ∧ Extern.find fn = some s ∧ extSem PP x fn.resultTypes s := fun x hx => by
  cases hx
  exact ⟨Tryz.f248, Extern.Atomic.storeT, Tryz.func248, by kernel_rfl, by kernel_rfl, by kernel_rfl, by kernel_rfl, rfl⟩
theorem x360 : ∀ x, q360 = .ext x → ∃ fn s, PP.funcs[360]? = some fn ∧ (fn.name == "runtime.NumGoroutine") = false ∧ fn.body = none ∧ Extern.findNext fn = none ∧ Extern.find fn = some s ∧ extSem PP x fn.resultTypes s := fun x hx => by
  cases hx
  exact ⟨Tryz.f360, Extern.Atomic.loadT (.int .u32), Tryz.func360, by kernel_rfl, by kernel_rfl, by kernel_rfl, by kernel_rfl, rfl⟩
theorem x373 : ∀ x, q373 = .ext x → ∃ fn s, PP.funcs[373]? = some fn ∧ (fn.name == "runtime.NumGoroutine") = false ∧ fn.body = none ∧ Extern.findNext fn = none ∧ Extern.find fn = some s ∧ extSem PP x fn.resultTypes s := fun x hx => by
  cases hx
  exact ⟨Tryz.f373, Extern.Atomic.storeT, Tryz.func373, by kernel_rfl, by kernel_rfl, by kernel_rfl, by kernel_rfl, rfl⟩
theorem x383 : ∀ x, q383 = .ext x → ∃ fn s, PP.funcs[383]? = some fn ∧ (fn.name == "runtime.NumGoroutine") = false ∧ fn.body = none ∧ Extern.findNext fn = none ∧ Extern.find fn = some s ∧ extSem PP x fn.resultTypes s := fun x hx => by
  cases hx
  exact ⟨Tryz.f383, (fun _ => (do mark .disable; pure (.tuple #[]))), Tryz.func383, by kernel_rfl, by kernel_rfl, by kernel_rfl, by kernel_rfl, ⟨.disable, rfl⟩⟩
theorem x384 : ∀ x, q384 = .ext x → ∃ fn s, PP.funcs[384]? = some fn ∧ (fn.name == "runtime.NumGoroutine") = false ∧ fn.body = none ∧ Extern.findNext fn = none ∧ Extern.find fn = some s ∧ extSem PP x fn.resultTypes s := fun x hx => by
  cases hx
  exact ⟨Tryz.f384, Extern.Atomic.casT (.int .i32), Tryz.func384, by kernel_rfl, by kernel_rfl, by kernel_rfl, by kernel_rfl, rfl⟩
theorem x385 : ∀ x, q385 = .ext x → ∃ fn s, PP.funcs[385]? = some fn ∧ (fn.name == "runtime.NumGoroutine") = false ∧ fn.body = none ∧ Extern.findNext fn = none ∧ Extern.find fn = some s ∧ extSem PP x fn.resultTypes s := fun x hx => by
  cases hx
  exact ⟨Tryz.f385, (fun _ => (do mark .enable; pure (.tuple #[]))), Tryz.func385, by kernel_rfl, by kernel_rfl, by kernel_rfl, by kernel_rfl, ⟨.enable, rfl⟩⟩
theorem x386 : ∀ x, q386 = .ext x → ∃ fn s, PP.funcs[386]? = some fn ∧ (fn.name == "runtime.NumGoroutine") = false ∧ fn.body = none ∧ Extern.findNext fn = none ∧ Extern.find fn = some s ∧ extSem PP x fn.resultTypes s := fun x hx => by
  cases hx
  exact ⟨Tryz.f386, Extern.Race.marked .acquire, Tryz.func386, by kernel_rfl, by kernel_rfl, by kernel_rfl, by kernel_rfl, ⟨.acquire, rfl⟩⟩
theorem x388 : ∀ x, q388 = .ext x → ∃ fn s, PP.funcs[388]? = some fn ∧ (fn.name == "runtime.NumGoroutine") = false ∧ fn.body = none ∧ Extern.findNext fn = none ∧ Extern.find fn = some s ∧ extSem PP x fn.resultTypes s := fun x hx => by
  cases hx
  exact ⟨Tryz.f388, Extern.Race.marked .releaseMerge, Tryz.func388, by kernel_rfl, by kernel_rfl, by kernel_rfl, by kernel_rfl, ⟨.releaseMerge, rfl⟩⟩
theorem x389 : ∀ x, q389 = .ext x → ∃ fn s, PP.funcs[389]? = some fn ∧ (fn.name == "runtime.NumGoroutine") = false ∧ fn.body = none ∧ Extern.findNext fn = none ∧ Extern.find fn = some s ∧ extSem PP x fn.resultTypes s := fun x hx => by
  cases hx
  exact ⟨Tryz.f389, Extern.Atomic.update (Op.intArith .add) .i32 true, Tryz.func389, by kernel_rfl, by kernel_rfl, by kernel_rfl, by kernel_rfl, rfl⟩
theorem exts_all : ExtOk (cx PP (msIn msL) (tyIn tyT) tsL) (tyIn tyT) tsL env := ext_of env_mk eA_lt (fun _ h => List.mem_append.1 h) eC_code (fun e he => by
  simp only [eX, List.mem_cons, List.not_mem_nil, or_false] at he
  rcases he with rfl | rfl | rfl | rfl | rfl | rfl | rfl | rfl | rfl | rfl | rfl | rfl
  · exact x182
  · exact x231
  · exact x232
  · exact x248
  · exact x360
  · exact x373
  · exact x383
  · exact x384
  · exact x385
  · exact x386
  · exact x388
  · exact x389)
theorem known_reck (w : World) : Calls PP 5 #[] w fun
  | .returned v, w' => v = .bool true ∧ Below w.heap.size w w'
  | _, _ => False := reckon prg_ok exts_all (by decide) (hrel0 w 3 (by kernel_rfl) (by decide)) kern
theorem second_reck (w : World) (L : List Value) (hL : concs (msIn msL) (mu0 3) zA = some L) : Calls PP 7 L.toArray w fun e w2 => e = .returned (.bool true) ∧ Below w.heap.size w w2 := reckonB prg_ok exts_all (by decide) (hrel0 w 3 (by kernel_rfl) (by decide)) hL kern2
end
end PH.R
