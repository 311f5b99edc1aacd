/-
  Functions without a body; and 'known', reckoned by the kernel.
-/
import Derived.Test.YtodjdcdbmbmbmaaGreatDoorRecF
import Derived.Test.YtodjdcdbmbmbmaaGreatDoorRecJ
namespace PH.R
open Go Go.Proofs Go.RowKit
set_option maxRecDepth 100000
noncomputable section
theorem x165 : ∀ x, q165 = .ext x → ∃ fn s, PP.funcs[165]? = some fn ∧ (fn.name == "runtime.NumGoroutine") = false ∧ fn.body = none ∧ Extern.findNext fn = none ∧ Extern.find fn = some s ∧ extSem PP x fn.resultTypes s := fun x hx => by
  cases hx
  exact ⟨Tryz.f165, Extern.Atomic.update (Op.intArith .add) .i64 true, Tryz.func165, by kernel_rfl, by kernel_rfl, by kernel_rfl, by kernel_rfl, rfl⟩
theorem x201 : ∀ x, q201 = .ext x → ∃ fn s, PP.funcs[201]? = some fn ∧ (fn.name == "runtime.NumGoroutine") = false ∧ fn.body = none ∧ Extern.findNext fn = none ∧ Extern.find fn = some s ∧ extSem PP x fn.resultTypes s := fun x hx => by
  cases hx
  exact ⟨Tryz.f201, Extern.AbiNoEscape.same, Tryz.func201, by kernel_rfl, by kernel_rfl, by kernel_rfl, by kernel_rfl, rfl⟩
theorem x202 : ∀ x, q202 = .ext x → ∃ fn s, PP.funcs[202]? = some fn ∧ (fn.name == "runtime.NumGoroutine") = false ∧ fn.body = none ∧ Extern.findNext fn = none ∧ Extern.find fn = some s ∧ extSem PP x fn.resultTypes s := fun x hx => by
  cases hx
  exact ⟨Tryz.f202, Extern.BytealgMakeNoZero.makeNoZero Tryz.f202.params Tryz.f202.resultTypes, Tryz.func202, by kernel_rfl, by kernel_rfl, by kernel_rfl, by kernel_rfl, ⟨_, rfl, 58, by kernel_rfl, by kernel_rfl⟩⟩
theorem x216 : ∀ x, q216 = .ext x → ∃ fn s, PP.funcs[216]? = some fn ∧ (fn.name == "runtime.NumGoroutine") = false ∧ fn.body = none ∧ Extern.findNext fn = none ∧ Extern.find fn = some s ∧ extSem PP x fn.resultTypes s := fun x hx => by
  cases hx
  exact ⟨Tryz.f216, Extern.Atomic.storeT, Tryz.func216, by kernel_rfl, by kernel_rfl, by kernel_rfl, by kernel_rfl, rfl⟩
theorem x334 : ∀ x, q334 = .ext x → ∃ fn s, PP.funcs[334]? = some fn ∧ (fn.name == "runtime.NumGoroutine") = false ∧ fn.body = none ∧ Extern.findNext fn = none ∧ Extern.find fn = some s ∧ extSem PP x fn.resultTypes s := fun x hx => by
  cases hx
  exact ⟨Tryz.f334, Extern.Atomic.loadT (.int .u32), Tryz.func334, by kernel_rfl, by kernel_rfl, by kernel_rfl, by kernel_rfl, rfl⟩
theorem x355 : ∀ x, q355 = .ext x → ∃ fn s, PP.funcs[355]? = some fn ∧ (fn.name == "runtime.NumGoroutine") = false ∧ fn.body = none ∧ Extern.findNext fn = none ∧ Extern.find fn = some s ∧ extSem PP x fn.resultTypes s := fun x hx => by
  cases hx
  exact ⟨Tryz.f355, Extern.Atomic.storeT, Tryz.func355, by kernel_rfl, by kernel_rfl, by kernel_rfl, by kernel_rfl, rfl⟩
theorem x365 : ∀ x, q365 = .ext x → ∃ fn s, PP.funcs[365]? = some fn ∧ (fn.name == "runtime.NumGoroutine") = false ∧ fn.body = none ∧ Extern.findNext fn = none ∧ Extern.find fn = some s ∧ extSem PP x fn.resultTypes s := fun x hx => by
  cases hx
  exact ⟨Tryz.f365, (fun _ => (do mark .disable; pure (.tuple #[]))), Tryz.func365, by kernel_rfl, by kernel_rfl, by kernel_rfl, by kernel_rfl, ⟨.disable, rfl⟩⟩
theorem x366 : ∀ x, q366 = .ext x → ∃ fn s, PP.funcs[366]? = some fn ∧ (fn.name == "runtime.NumGoroutine") = false ∧ fn.body = none ∧ Extern.findNext fn = none ∧ Extern.find fn = some s ∧ extSem PP x fn.resultTypes s := fun x hx => by
  cases hx
  exact ⟨Tryz.f366, Extern.Atomic.casT (.int .i32), Tryz.func366, by kernel_rfl, by kernel_rfl, by kernel_rfl, by kernel_rfl, rfl⟩
theorem x367 : ∀ x, q367 = .ext x → ∃ fn s, PP.funcs[367]? = some fn ∧ (fn.name == "runtime.NumGoroutine") = false ∧ fn.body = none ∧ Extern.findNext fn = none ∧ Extern.find fn = some s ∧ extSem PP x fn.resultTypes s := fun x hx => by
  cases hx
  exact ⟨Tryz.f367, (fun _ => (do mark .enable; pure (.tuple #[]))), Tryz.func367, by kernel_rfl, by kernel_rfl, by kernel_rfl, by kernel_rfl, ⟨.enable, rfl⟩⟩
theorem x368 : ∀ x, q368 = .ext x → ∃ fn s, PP.funcs[368]? = some fn ∧ (fn.name == "runtime.NumGoroutine") = false ∧ fn.body = none ∧ Extern.findNext fn = none ∧ Extern.find fn = some s ∧ extSem PP x fn.resultTypes s := fun x hx => by
  cases hx
  exact ⟨Tryz.f368, Extern.Race.marked .acquire, Tryz.func368, by kernel_rfl, by kernel_rfl, by kernel_rfl, by kernel_rfl, ⟨.acquire, rfl⟩⟩
theorem x370 : ∀ x, q370 = .ext x → ∃ fn s, PP.funcs[370]? = some fn ∧ (fn.name == "runtime.NumGoroutine") = false ∧ fn.body = none ∧ Extern.findNext fn = none ∧ Extern.find fn = some s ∧ extSem PP x fn.resultTypes s := fun x hx => by
  cases hx
  exact ⟨Tryz.f370, Extern.Race.marked .releaseMerge, Tryz.func370, by kernel_rfl, by kernel_rfl, by kernel_rfl, by kernel_rfl, ⟨.releaseMerge, rfl⟩⟩
theorem x371 : ∀ x, q371 = .ext x → ∃ fn s, PP.funcs[371]? = some fn ∧ (fn.name == "runtime.NumGoroutine") = false ∧ fn.body = none ∧ Extern.findNext fn = none ∧ Extern.find fn = some s ∧ extSem PP x fn.resultTypes s := fun x hx => by
  cases hx
  exact ⟨Tryz.f371, Extern.Atomic.update (Op.intArith .add) .i32 true, Tryz.func371, by kernel_rfl, by kernel_rfl, by kernel_rfl, by kernel_rfl, rfl⟩
theorem exts_all : ExtOk (cx PP (msIn msL) (tyIn tyT) tsL) (tyIn tyT) tsL env := ext_of env_mk eA_lt (fun _ h => List.mem_append.1 h) eC_code (fun e he => by
  simp only [eX, List.mem_cons, List.not_mem_nil, or_false] at he
  rcases he with rfl | rfl | rfl | rfl | rfl | rfl | rfl | rfl | rfl | rfl | rfl | rfl
  · exact x165
  · exact x201
  · exact x202
  · exact x216
  · exact x334
  · exact x355
  · exact x365
  · exact x366
  · exact x367
  · exact x368
  · exact x370
  · exact x371)
theorem known_reck (w : World) : Calls PP 4 #[] w fun
  | .returned v, w' => v = .bool true ∧ Below w.heap.size w w'
  | _, _ => False := reckon prg_ok exts_all (by decide) (hrel0 w 4 (by kernel_rfl) (by decide)) kern
end
end PH.R
