/-
  Functions without a body; and 'known', reckoned by the kernel.
-/
import Derived.Test.YtjmfclhilmmamaaGreatDoorRecF
import Derived.Test.YtjmfclhilmmamaaGreatDoorRecJ
namespace PH.R
open Go Go.Proofs Go.RowKit
set_option maxRecDepth 100000
noncomputable section
theorem x200 : ∀ x, q200 = .ext x → ∃ fn s, PP.funcs[200]? = some fn ∧ (fn.name == "runtime.NumGoroutine") = false ∧ fn.body = none ∧ Extern.findNext fn = none ∧ Extern.find fn = some s ∧ extSem PP x fn.resultTypes s := fun x hx => by
  cases hx
  exact ⟨Tryz.f200, Extern.AbiNoEscape.same, Tryz.func200, by kernel_rfl, by kernel_rfl, by kernel_rfl, by kernel_rfl, rfl⟩
theorem x220 : ∀ x, q220 = .ext x → ∃ fn s, PP.funcs[220]? = some fn ∧ (fn.name == "runtime.NumGoroutine") = false ∧ fn.body = none ∧ Extern.findNext fn = none ∧ Extern.find fn = some s ∧ extSem PP x fn.resultTypes s := fun x hx => by
  cases hx
  exact ⟨Tryz.f220, Extern.Atomic.update (Op.intArith .add) .i64 true, Tryz.func220, by kernel_rfl, by kernel_rfl, by kernel_rfl, by kernel_rfl, rfl⟩
theorem x263 : ∀ x, q263 = .ext x → ∃ fn s, PP.funcs[263]? = some fn ∧ (fn.name == "runtime.NumGoroutine") = false ∧ fn.body = none ∧ Extern.findNext fn = none ∧ Extern.find fn = some s ∧ extSem PP x fn.resultTypes s := fun x hx => by
  cases hx
  exact ⟨Tryz.f263, Extern.BytealgMakeNoZero.makeNoZero Tryz.f263.params Tryz.f263.resultTypes, Tryz.func263, by kernel_rfl, by kernel_rfl, by kernel_rfl, by kernel_rfl, ⟨_, rfl, 89, by kernel_rfl, by kernel_rfl⟩⟩
theorem x277 : ∀ x, q277 = .ext x → ∃ fn s, PP.funcs[277]? = some fn ∧ (fn.name == "runtime.NumGoroutine") = false ∧ fn.body = none ∧ Extern.findNext fn = none ∧ Extern.find fn = some s ∧ extSem PP x fn.resultTypes s := fun x hx => by
  cases hx
  exact ⟨Tryz.f277, Extern.Atomic.storeT, Tryz.func277, by kernel_rfl, by kernel_rfl, by kernel_rfl, by kernel_rfl, rfl⟩
theorem x384 : ∀ x, q384 = .ext x → ∃ fn s, PP.funcs[384]? = some fn ∧ (fn.name == "runtime.NumGoroutine") = false ∧ fn.body = none ∧ Extern.findNext fn = none ∧ Extern.find fn = some s ∧ extSem PP x fn.resultTypes s := fun x hx => by
  cases hx
  exact ⟨Tryz.f384, Extern.Atomic.loadT (.int .u32), Tryz.func384, by kernel_rfl, by kernel_rfl, by kernel_rfl, by kernel_rfl, rfl⟩
theorem x397 : ∀ x, q397 = .ext x → ∃ fn s, PP.funcs[397]? = some fn ∧ (fn.name == "runtime.NumGoroutine") = false ∧ fn.body = none ∧ Extern.findNext fn = none ∧ Extern.find fn = some s ∧ extSem PP x fn.resultTypes s := fun x hx => by
  cases hx
  exact ⟨Tryz.f397, Extern.Atomic.storeT, Tryz.func397, by kernel_rfl, by kernel_rfl, by kernel_rfl, by kernel_rfl, rfl⟩
theorem x407 : ∀ x, q407 = .ext x → ∃ fn s, PP.funcs[407]? = some fn ∧ (fn.name == "runtime.NumGoroutine") = false ∧ fn.body = none ∧ Extern.findNext fn = none ∧ Extern.find fn = some s ∧ extSem PP x fn.resultTypes s := fun x hx => by
  cases hx
  exact ⟨Tryz.f407, (fun _ => (do mark .disable; pure (.tuple #[]))), Tryz.func407, by kernel_rfl, by kernel_rfl, by kernel_rfl, by kernel_rfl, ⟨.disable, rfl⟩⟩
theorem x408 : ∀ x, q408 = .ext x → ∃ fn s, PP.funcs[408]? = some fn ∧ (fn.name == "runtime.NumGoroutine") = false ∧ fn.body = none ∧ Extern.findNext fn = none ∧ Extern.find fn = some s ∧ extSem PP x fn.resultTypes s := fun x hx => by
  cases hx
  exact ⟨Tryz.f408, Extern.Atomic.casT (.int .i32), Tryz.func408, by kernel_rfl, by kernel_rfl, by kernel_rfl, by kernel_rfl, rfl⟩
theorem x409 : ∀ x, q409 = .ext x → ∃ fn s, PP.funcs[409]? = some fn ∧ (fn.name == "runtime.NumGoroutine") = false ∧ fn.body = none ∧ Extern.findNext fn = none ∧ Extern.find fn = some s ∧ extSem PP x fn.resultTypes s := fun x hx => by
  cases hx
  exact ⟨Tryz.f409, (fun _ => (do mark .enable; pure (.tuple #[]))), Tryz.func409, by kernel_rfl, by kernel_rfl, by kernel_rfl, by kernel_rfl, ⟨.enable, rfl⟩⟩
theorem x410 : ∀ x, q410 = .ext x → ∃ fn s, PP.funcs[410]? = some fn ∧ (fn.name == "runtime.NumGoroutine") = false ∧ fn.body = none ∧ Extern.findNext fn = none ∧ Extern.find fn = some s ∧ extSem PP x fn.resultTypes s := fun x hx => by
  cases hx
  exact ⟨Tryz.f410, Extern.Race.marked .acquire, Tryz.func410, by kernel_rfl, by kernel_rfl, by kernel_rfl, by kernel_rfl, ⟨.acquire, rfl⟩⟩
theorem x412 : ∀ x, q412 = .ext x → ∃ fn s, PP.funcs[412]? = some fn ∧ (fn.name == "runtime.NumGoroutine") = false ∧ fn.body = none ∧ Extern.findNext fn = none ∧ Extern.find fn = some s ∧ extSem PP x fn.resultTypes s := fun x hx => by
  cases hx
  exact ⟨Tryz.f412, Extern.Race.marked .releaseMerge, Tryz.func412, by kernel_rfl, by kernel_rfl, by kernel_rfl, by kernel_rfl, ⟨.releaseMerge, rfl⟩⟩
theorem x413 : ∀ x, q413 = .ext x → ∃ fn s, PP.funcs[413]? = some fn ∧ (fn.name == "runtime.NumGoroutine") = false ∧ fn.body = none ∧ Extern.findNext fn = none ∧ Extern.find fn = some s ∧ extSem PP x fn.resultTypes s := fun x hx => by
  cases hx
  exact ⟨Tryz.f413, Extern.Atomic.update (Op.intArith .add) .i32 true, Tryz.func413, by kernel_rfl, by kernel_rfl, by kernel_rfl, by kernel_rfl, rfl⟩
theorem exts_all : ExtOk (cx PP (msIn msL) (tyIn tyT) tsL) (tyIn tyT) tsL env := ext_of env_mk eA_lt (fun _ h => List.mem_append.1 h) eC_code (fun e he => by
  simp only [eX, List.mem_cons, List.not_mem_nil, or_false] at he
  rcases he with rfl | rfl | rfl | rfl | rfl | rfl | rfl | rfl | rfl | rfl | rfl | rfl
  · exact x200
  · exact x220
  · exact x263
  · exact x277
  · exact x384
  · exact x397
  · exact x407
  · exact x408
  · exact x409
  · exact x410
  · exact x412
  · exact x413)
theorem known_reck (w : World) : Calls PP 7 #[] w fun
  | .returned v, w' => v = .bool true ∧ Below w.heap.size w w'
  | _, _ => False := reckon prg_ok exts_all (by decide) (hrel0 w 3 (by kernel_rfl) (by decide)) kern
end
end PH.R
