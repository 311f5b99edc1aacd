/-
  Functions without a body; and 'known', reckoned by the kernel.
-/
import Derived.Test.YtnpkpbgfnfkadaaGreatDoorRecF
import Derived.Test.YtnpkpbgfnfkadaaGreatDoorRecJ
namespace PH.R
open Go Go.Proofs Go.RowKit
set_option maxRecDepth 100000
noncomputable section
theorem x133 : ∀ x, q133 = .ext x → ∃ fn s, PP.funcs[133]? = some fn ∧ (fn.name == "runtime.NumGoroutine") = false ∧ fn.body = none ∧ Extern.findNext fn = none ∧ Extern.find fn = some s ∧ extSem PP x fn.resultTypes s := fun x hx => by
  cases hx
  exact ⟨Tryz.f133, Extern.Atomic.storeT, Tryz.func133, by kernel_rfl, by kernel_rfl, by kernel_rfl, by kernel_rfl, rfl⟩
theorem x142 : ∀ x, q142 = .ext x → ∃ fn s, PP.funcs[142]? = some fn ∧ (fn.name == "runtime.NumGoroutine") = false ∧ fn.body = none ∧ Extern.findNext fn = none ∧ Extern.find fn = some s ∧ extSem PP x fn.resultTypes s := fun x hx => by
  cases hx
  exact ⟨Tryz.f142, Extern.Atomic.update (Op.intArith .add) .i64 true, Tryz.func142, by kernel_rfl, by kernel_rfl, by kernel_rfl, by kernel_rfl, rfl⟩
theorem x194 : ∀ x, q194 = .ext x → ∃ fn s, PP.funcs[194]? = some fn ∧ (fn.name == "runtime.NumGoroutine") = false ∧ fn.body = none ∧ Extern.findNext fn = none ∧ Extern.find fn = some s ∧ extSem PP x fn.resultTypes s := fun x hx => by
  cases hx
  exact ⟨Tryz.f194, Extern.AbiNoEscape.same, Tryz.func194, by kernel_rfl, by kernel_rfl, by kernel_rfl, by kernel_rfl, rfl⟩
theorem x195 : ∀ x, q195 = .ext x → ∃ fn s, PP.funcs[195]? = some fn ∧ (fn.name == "runtime.NumGoroutine") = false ∧ fn.body = none ∧ Extern.findNext fn = none ∧ Extern.find fn = some s ∧ extSem PP x fn.resultTypes s := fun x hx => by
  cases hx
  exact ⟨Tryz.f195, Extern.BytealgMakeNoZero.makeNoZero Tryz.f195.params Tryz.f195.resultTypes, Tryz.func195, by kernel_rfl, by kernel_rfl, by kernel_rfl, by kernel_rfl, ⟨_, rfl, 113, by kernel_rfl, by kernel_rfl⟩⟩
theorem x286 : ∀ x, q286 = .ext x → ∃ fn s, PP.funcs[286]? = some fn ∧ (fn.name == "runtime.NumGoroutine") = false ∧ fn.body = none ∧ Extern.findNext fn = none ∧ Extern.find fn = some s ∧ extSem PP x fn.resultTypes s := fun x hx => by
  cases hx
  exact ⟨Tryz.f286, Extern.Atomic.loadT (.int .u32), Tryz.func286, by kernel_rfl, by kernel_rfl, by kernel_rfl, by kernel_rfl, rfl⟩
theorem x300 : ∀ x, q300 = .ext x → ∃ fn s, PP.funcs[300]? = some fn ∧ (fn.name == "runtime.NumGoroutine") = false ∧ fn.body = none ∧ Extern.findNext fn = none ∧ Extern.find fn = some s ∧ extSem PP x fn.resultTypes s := fun x hx => by
  cases hx
  exact ⟨Tryz.f300, Extern.Atomic.storeT, Tryz.func300, by kernel_rfl, by kernel_rfl, by kernel_rfl, by kernel_rfl, rfl⟩
theorem x307 : ∀ x, q307 = .ext x → ∃ fn s, PP.funcs[307]? = some fn ∧ (fn.name == "runtime.NumGoroutine") = false ∧ fn.body = none ∧ Extern.findNext fn = none ∧ Extern.find fn = some s ∧ extSem PP x fn.resultTypes s := fun x hx => by
  cases hx
  exact ⟨Tryz.f307, (fun _ => (do mark .disable; pure (.tuple #[]))), Tryz.func307, by kernel_rfl, by kernel_rfl, by kernel_rfl, by kernel_rfl, ⟨.disable, rfl⟩⟩
theorem x308 : ∀ x, q308 = .ext x → ∃ fn s, PP.funcs[308]? = some fn ∧ (fn.name == "runtime.NumGoroutine") = false ∧ fn.body = none ∧ Extern.findNext fn = none ∧ Extern.find fn = some s ∧ extSem PP x fn.resultTypes s := fun x hx => by
  cases hx
  exact ⟨Tryz.f308, Extern.Atomic.casT (.int .i32), Tryz.func308, by kernel_rfl, by kernel_rfl, by kernel_rfl, by kernel_rfl, rfl⟩
theorem x309 : ∀ x, q309 = .ext x → ∃ fn s, PP.funcs[309]? = some fn ∧ (fn.name == "runtime.NumGoroutine") = false ∧ fn.body = none ∧ Extern.findNext fn = none ∧ Extern.find fn = some s ∧ extSem PP x fn.resultTypes s := fun x hx => by
  cases hx
  exact ⟨Tryz.f309, (fun _ => (do mark .enable; pure (.tuple #[]))), Tryz.func309, by kernel_rfl, by kernel_rfl, by kernel_rfl, by kernel_rfl, ⟨.enable, rfl⟩⟩
theorem x310 : ∀ x, q310 = .ext x → ∃ fn s, PP.funcs[310]? = some fn ∧ (fn.name == "runtime.NumGoroutine") = false ∧ fn.body = none ∧ Extern.findNext fn = none ∧ Extern.find fn = some s ∧ extSem PP x fn.resultTypes s := fun x hx => by
  cases hx
  exact ⟨Tryz.f310, Extern.Race.marked .acquire, Tryz.func310, by kernel_rfl, by kernel_rfl, by kernel_rfl, by kernel_rfl, ⟨.acquire, rfl⟩⟩
theorem x312 : ∀ x, q312 = .ext x → ∃ fn s, PP.funcs[312]? = some fn ∧ (fn.name == "runtime.NumGoroutine") = false ∧ fn.body = none ∧ Extern.findNext fn = none ∧ Extern.find fn = some s ∧ extSem PP x fn.resultTypes s := fun x hx => by
  cases hx
  exact ⟨Tryz.f312, Extern.Race.marked .releaseMerge, Tryz.func312, by kernel_rfl, by kernel_rfl, by kernel_rfl, by kernel_rfl, ⟨.releaseMerge, rfl⟩⟩
theorem x313 : ∀ x, q313 = .ext x → ∃ fn s, PP.funcs[313]? = some fn ∧ (fn.name == "runtime.NumGoroutine") = false ∧ fn.body = none ∧ Extern.findNext fn = none ∧ Extern.find fn = some s ∧ extSem PP x fn.resultTypes s := fun x hx => by
  cases hx
  exact ⟨Tryz.f313, Extern.Atomic.update (Op.intArith .add) .i32 true, Tryz.func313, by kernel_rfl, by kernel_rfl, by kernel_rfl, by kernel_rfl, rfl⟩
theorem exts_ok : ExtOk (cx PP (msIn msL) (tyIn tyT) tsL) (tyIn tyT) tsL env := ext_of env_mk eA_lt (fun _ h => List.mem_append.1 h) eC_code (fun e he => by
  simp only [eX, List.mem_cons, List.not_mem_nil, or_false] at he
  rcases he with rfl | rfl | rfl | rfl | rfl | rfl | rfl | rfl | rfl | rfl | rfl | rfl
  · exact x133
  · exact x142
  · exact x194
  · exact x195
  · exact x286
  · exact x300
  · exact x307
  · exact x308
  · exact x309
  · exact x310
  · exact x312
  · exact x313)
theorem known_reck (w : World) : Calls PP 4 #[] w fun
  | .returned v, w' => v = .bool true ∧ Below w.heap.size w w'
  | _, _ => False := reckon prg_ok exts_ok (by decide) (hrel0 w 3 (by kernel_rfl) (by decide)) kern
end
end PH.R
