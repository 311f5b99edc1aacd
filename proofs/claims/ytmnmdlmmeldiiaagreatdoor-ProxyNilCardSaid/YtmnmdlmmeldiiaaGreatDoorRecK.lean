/-
  Functions without a body; and 'known', reckoned by the kernel.
-/
import Derived.Test.YtmnmdlmmeldiiaaGreatDoorRecF
import Derived.Test.YtmnmdlmmeldiiaaGreatDoorRecJ
namespace PH.R
open Go Go.Proofs Go.RowKit
set_option maxRecDepth 100000
noncomputable section
theorem x301 : ∀ x, q301 = .ext x → ∃ fn s, PP.funcs[301]? = some fn ∧ (fn.name == "runtime.NumGoroutine") = false ∧ fn.body = none ∧ Extern.findNext fn = none ∧ Extern.find fn = some s ∧ extSem PP x fn.resultTypes s := fun x hx => by
  cases hx
  exact ⟨Tryz.f301, Extern.Atomic.update (Op.intArith .add) .i64 true, Tryz.func301, by kernel_rfl, by kernel_rfl, by kernel_rfl, by kernel_rfl, rfl⟩
theorem x389 : ∀ x, q389 = .ext x → ∃ fn s, PP.funcs[389]? = some fn ∧ (fn.name == "runtime.NumGoroutine") = false ∧ fn.body = none ∧ Extern.findNext fn = none ∧ Extern.find fn = some s ∧ extSem PP x fn.resultTypes s := fun x hx => by
  cases hx
  exact ⟨Tryz.f389, Extern.Atomic.storeT, Tryz.func389, by kernel_rfl, by kernel_rfl, by kernel_rfl, by kernel_rfl, rfl⟩
theorem x397 : ∀ x, q397 = .ext x → ∃ fn s, PP.funcs[397]? = some fn ∧ (fn.name == "runtime.NumGoroutine") = false ∧ fn.body = none ∧ Extern.findNext fn = none ∧ Extern.find fn = some s ∧ extSem PP x fn.resultTypes s := fun x hx => by
  cases hx
  exact ⟨Tryz.f397, Extern.AbiNoEscape.same, Tryz.func397, by kernel_rfl, by kernel_rfl, by kernel_rfl, by kernel_rfl, rfl⟩
theorem x398 : ∀ x, q398 = .ext x → ∃ fn s, PP.funcs[398]? = some fn ∧ (fn.name == "runtime.NumGoroutine") = false ∧ fn.body = none ∧ Extern.findNext fn = none ∧ Extern.find fn = some s ∧ extSem PP x fn.resultTypes s := fun x hx => by
  cases hx
  exact ⟨Tryz.f398, Extern.BytealgMakeNoZero.makeNoZero Tryz.f398.params Tryz.f398.resultTypes, Tryz.func398, by kernel_rfl, by kernel_rfl, by kernel_rfl, by kernel_rfl, ⟨_, rfl, 244, by kernel_rfl, by kernel_rfl⟩⟩
theorem x553 : ∀ x, q553 = .ext x → ∃ fn s, PP.funcs[553]? = some fn ∧ (fn.name == "runtime.NumGoroutine") = false ∧ fn.body = none ∧ Extern.findNext fn = none ∧ Extern.find fn = some s ∧ extSem PP x fn.resultTypes s := fun x hx => by
  cases hx
  exact ⟨Tryz.f553, Extern.Atomic.loadT (.int .u32), Tryz.func553, by kernel_rfl, by kernel_rfl, by kernel_rfl, by kernel_rfl, rfl⟩
theorem x577 : ∀ x, q577 = .ext x → ∃ fn s, PP.funcs[577]? = some fn ∧ (fn.name == "runtime.NumGoroutine") = false ∧ fn.body = none ∧ Extern.findNext fn = none ∧ Extern.find fn = some s ∧ extSem PP x fn.resultTypes s := fun x hx => by
  cases hx
  exact ⟨Tryz.f577, Extern.Atomic.storeT, Tryz.func577, by kernel_rfl, by kernel_rfl, by kernel_rfl, by kernel_rfl, rfl⟩
theorem x594 : ∀ x, q594 = .ext x → ∃ fn s, PP.funcs[594]? = some fn ∧ (fn.name == "runtime.NumGoroutine") = false ∧ fn.body = none ∧ Extern.findNext fn = none ∧ Extern.find fn = some s ∧ extSem PP x fn.resultTypes s := fun x hx => by
  cases hx
  exact ⟨Tryz.f594, (fun _ => (do mark .disable; pure (.tuple #[]))), Tryz.func594, by kernel_rfl, by kernel_rfl, by kernel_rfl, by kernel_rfl, ⟨.disable, rfl⟩⟩
theorem x595 : ∀ x, q595 = .ext x → ∃ fn s, PP.funcs[595]? = some fn ∧ (fn.name == "runtime.NumGoroutine") = false ∧ fn.body = none ∧ Extern.findNext fn = none ∧ Extern.find fn = some s ∧ extSem PP x fn.resultTypes s := fun x hx => by
  cases hx
  exact ⟨Tryz.f595, Extern.Atomic.casT (.int .i32), Tryz.func595, by kernel_rfl, by kernel_rfl, by kernel_rfl, by kernel_rfl, rfl⟩
theorem x596 : ∀ x, q596 = .ext x → ∃ fn s, PP.funcs[596]? = some fn ∧ (fn.name == "runtime.NumGoroutine") = false ∧ fn.body = none ∧ Extern.findNext fn = none ∧ Extern.find fn = some s ∧ extSem PP x fn.resultTypes s := fun x hx => by
  cases hx
  exact ⟨Tryz.f596, (fun _ => (do mark .enable; pure (.tuple #[]))), Tryz.func596, by kernel_rfl, by kernel_rfl, by kernel_rfl, by kernel_rfl, ⟨.enable, rfl⟩⟩
theorem x597 : ∀ x, q597 = .ext x → ∃ fn s, PP.funcs[597]? = some fn ∧ (fn.name == "runtime.NumGoroutine") = false ∧ fn.body = none ∧ Extern.findNext fn = none ∧ Extern.find fn = some s ∧ extSem PP x fn.resultTypes s := fun x hx => by
  cases hx
  exact ⟨Tryz.f597, Extern.Race.marked .acquire, Tryz.func597, by kernel_rfl, by kernel_rfl, by kernel_rfl, by kernel_rfl, ⟨.acquire, rfl⟩⟩
theorem x599 : ∀ x, q599 = .ext x → ∃ fn s, PP.funcs[599]? = some fn ∧ (fn.name == "runtime.NumGoroutine") = false ∧ fn.body = none ∧ Extern.findNext fn = none ∧ Extern.find fn = some s ∧ extSem PP x fn.resultTypes s := fun x hx => by
  cases hx
  exact ⟨Tryz.f599, Extern.Race.marked .releaseMerge, Tryz.func599, by kernel_rfl, by kernel_rfl, by kernel_rfl, by kernel_rfl, ⟨.releaseMerge, rfl⟩⟩
theorem x600 : ∀ x, q600 = .ext x → ∃ fn s, PP.funcs[600]? = some fn ∧ (fn.name == "runtime.NumGoroutine") = false ∧ fn.body = none ∧ Extern.findNext fn = none ∧ Extern.find fn = some s ∧ extSem PP x fn.resultTypes s := fun x hx => by
  cases hx
  exact ⟨Tryz.f600, Extern.Atomic.update (Op.intArith .add) .i32 true, Tryz.func600, by kernel_rfl, by kernel_rfl, by kernel_rfl, by kernel_rfl, rfl⟩
theorem exts_all : ExtOk (cx PP (msIn msL) (tyIn tyT) tsL) (tyIn tyT) tsL env := ext_of env_mk eA_lt (fun _ h => List.mem_append.1 h) eC_code (fun e he => by
  simp only [eX, List.mem_cons, List.not_mem_nil, or_false] at he
  rcases he with rfl | rfl | rfl | rfl | rfl | rfl | rfl | rfl | rfl | rfl | rfl | rfl
  · exact x301
  · exact x389
  · exact x397
  · exact x398
  · exact x553
  · exact x577
  · exact x594
  · exact x595
  · exact x596
  · exact x597
  · exact x599
  · exact x600)
theorem known_reck (w : World) (e0 : Nat) (h0 : w.heap[0]? = some (.cells #[.int .i64 0, .int .i64 0, .int .i64 0] e0 (0, 0))) : Calls PP 4 #[] w fun
  | .returned v, w' => v = .bool true ∧ Below w.heap.size w w'
  | _, _ => False := reckon prg_ok exts_all (by decide) (hrelL w 4 (by kernel_rfl) [] 4 rfl (by decide) (layG e0) (fun e he => by
    simp only [layG, List.mem_singleton] at he
    rcases he with rfl
    · exact ⟨of_decide_eq_true rfl, _, h0, rfl⟩)) (kern e0)
end
end PH.R
