/-
  Functions without a body; and 'known', reckoned by the kernel.
-/
import Derived.Test.YtmpfckdagibfiaaGreatDoorRecF
import Derived.Test.YtmpfckdagibfiaaGreatDoorRecJ
namespace PH.R
open Go Go.Proofs Go.RowKit
set_option maxRecDepth 100000
noncomputable section
theorem x166 : ∀ x, q166 = .ext x → ∃ fn s, PP.funcs[166]? = some fn ∧ (fn.name == "runtime.NumGoroutine") = false ∧ fn.body = none ∧ Extern.findNext fn = none ∧ Extern.find fn = some s ∧ extSem PP x fn.resultTypes s := fun x hx => by
  cases hx
  exact ⟨Tryz.f166, Extern.AbiNoEscape.same, Tryz.func166, by kernel_rfl, by kernel_rfl, by kernel_rfl, by kernel_rfl, rfl⟩
theorem x192 : ∀ x, q192 = .ext x → ∃ fn s, PP.funcs[192]? = some fn ∧ (fn.name == "runtime.NumGoroutine") = false ∧ fn.body = none ∧ Extern.findNext fn = none ∧ Extern.find fn = some s ∧ extSem PP x fn.resultTypes s := fun x hx => by
  cases hx
  exact ⟨Tryz.f192, Extern.Atomic.update (Op.intArith .add) .i64 true, Tryz.func192, by kernel_rfl, by kernel_rfl, by kernel_rfl, by kernel_rfl, rfl⟩
theorem x232 : ∀ x, q232 = .ext x → ∃ fn s, PP.funcs[232]? = some fn ∧ (fn.name == "runtime.NumGoroutine") = false ∧ fn.body = none ∧ Extern.findNext fn = none ∧ Extern.find fn = some s ∧ extSem PP x fn.resultTypes s := fun x hx => by
  cases hx
  exact ⟨Tryz.f232, Extern.BytealgMakeNoZero.makeNoZero Tryz.f232.params Tryz.f232.resultTypes, Tryz.func232, by kernel_rfl, by kernel_rfl, by kernel_rfl, by kernel_rfl, ⟨_, rfl, 58, by kernel_rfl, by kernel_rfl⟩⟩
theorem x248 : ∀ x, q248 = .ext x → ∃ fn s, PP.funcs[248]? = some fn ∧ (fn.name == "runtime.NumGoroutine") = false ∧ fn.body = none ∧ Extern.findNext fn = none ∧ Extern.find fn = some s ∧ extSem PP x fn.resultTypes s := fun x hx => by
  cases hx
  exact ⟨Tryz.f248, Extern.Atomic.storeT, Tryz.func248, by kernel_rfl, by kernel_rfl, by kernel_rfl, by kernel_rfl, rfl⟩
theorem x376 : ∀ x, q376 = .ext x → ∃ fn s, PP.funcs[376]? = some fn ∧ (fn.name == "runtime.NumGoroutine") = false ∧ fn.body = none ∧ Extern.findNext fn = none ∧ Extern.find fn = some s ∧ extSem PP x fn.resultTypes s := fun x hx => by
  cases hx
  exact ⟨Tryz.f376, Extern.Atomic.loadT (.int .u32), Tryz.func376, by kernel_rfl, by kernel_rfl, by kernel_rfl, by kernel_rfl, rfl⟩
theorem x401 : ∀ x, q401 = .ext x → ∃ fn s, PP.funcs[401]? = some fn ∧ (fn.name == "runtime.NumGoroutine") = false ∧ fn.body = none ∧ Extern.findNext fn = none ∧ Extern.find fn = some s ∧ extSem PP x fn.resultTypes s := fun x hx => by
  cases hx
  exact ⟨Tryz.f401, Extern.Atomic.storeT, Tryz.func401, by kernel_rfl, by kernel_rfl, by kernel_rfl, by kernel_rfl, rfl⟩
theorem x412 : ∀ x, q412 = .ext x → ∃ fn s, PP.funcs[412]? = some fn ∧ (fn.name == "runtime.NumGoroutine") = false ∧ fn.body = none ∧ Extern.findNext fn = none ∧ Extern.find fn = some s ∧ extSem PP x fn.resultTypes s := fun x hx => by
  cases hx
  exact ⟨Tryz.f412, (fun _ => (do mark .disable; pure (.tuple #[]))), Tryz.func412, by kernel_rfl, by kernel_rfl, by kernel_rfl, by kernel_rfl, ⟨.disable, rfl⟩⟩
theorem x413 : ∀ x, q413 = .ext x → ∃ fn s, PP.funcs[413]? = some fn ∧ (fn.name == "runtime.NumGoroutine") = false ∧ fn.body = none ∧ Extern.findNext fn = none ∧ Extern.find fn = some s ∧ extSem PP x fn.resultTypes s := fun x hx => by
  cases hx
  exact ⟨Tryz.f413, Extern.Atomic.casT (.int .i32), Tryz.func413, by kernel_rfl, by kernel_rfl, by kernel_rfl, by kernel_rfl, rfl⟩
theorem x414 : ∀ x, q414 = .ext x → ∃ fn s, PP.funcs[414]? = some fn ∧ (fn.name == "runtime.NumGoroutine") = false ∧ fn.body = none ∧ Extern.findNext fn = none ∧ Extern.find fn = some s ∧ extSem PP x fn.resultTypes s := fun x hx => by
  cases hx
  exact ⟨Tryz.f414, (fun _ => (do mark .enable; pure (.tuple #[]))), Tryz.func414, by kernel_rfl, by kernel_rfl, by kernel_rfl, by kernel_rfl, ⟨.enable, rfl⟩⟩
theorem x415 : ∀ x, q415 = .ext x → ∃ fn s, PP.funcs[415]? = some fn ∧ (fn.name == "runtime.NumGoroutine") = false ∧ fn.body = none ∧ Extern.findNext fn = none ∧ Extern.find fn = some s ∧ extSem PP x fn.resultTypes s := fun x hx => by
  cases hx
  exact ⟨Tryz.f415, Extern.Race.marked .acquire, Tryz.func415, by kernel_rfl, by kernel_rfl, by kernel_rfl, by kernel_rfl, ⟨.acquire, rfl⟩⟩
theorem x417 : ∀ x, q417 = .ext x → ∃ fn s, PP.funcs[417]? = some fn ∧ (fn.name == "runtime.NumGoroutine") = false ∧ fn.body = none ∧ Extern.findNext fn = none ∧ Extern.find fn = some s ∧ extSem PP x fn.resultTypes s := fun x hx => by
  cases hx
  exact ⟨Tryz.f417, Extern.Race.marked .releaseMerge, Tryz.func417, by kernel_rfl, by kernel_rfl, by kernel_rfl, by kernel_rfl, ⟨.releaseMerge, rfl⟩⟩
theorem x418 : ∀ x, q418 = .ext x → ∃ fn s, PP.funcs[418]? = some fn ∧ (fn.name == "runtime.NumGoroutine") = false ∧ fn.body = none ∧ Extern.findNext fn = none ∧ Extern.find fn = some s ∧ extSem PP x fn.resultTypes s := fun x hx => by
  cases hx
  exact ⟨Tryz.f418, Extern.Atomic.update (Op.intArith .add) .i32 true, Tryz.func418, by kernel_rfl, by kernel_rfl, by kernel_rfl, by kernel_rfl, rfl⟩
theorem exts_all : ExtOk (cx PP (msIn msL) (tyIn tyT) tsL) (tyIn tyT) tsL env := ext_of env_mk eA_lt (fun _ h => List.mem_append.1 h) eC_code (fun e he => by
  simp only [eX, List.mem_cons, List.not_mem_nil, or_false] at he
  rcases he with rfl | rfl | rfl | rfl | rfl | rfl | rfl | rfl | rfl | rfl | rfl | rfl
  · exact x166
  · exact x192
  · exact x232
  · exact x248
  · exact x376
  · exact x401
  · exact x412
  · exact x413
  · exact x414
  · exact x415
  · exact x417
  · exact x418)
theorem known_reck (w : World) : Calls PP 5 #[] w fun
  | .returned v, w' => v = .bool true ∧ Below w.heap.size w w'
  | _, _ => False := reckon prg_ok exts_all (by decide) (hrel0 w 3 (by kernel_rfl) (by decide)) kern
end
end PH.R
