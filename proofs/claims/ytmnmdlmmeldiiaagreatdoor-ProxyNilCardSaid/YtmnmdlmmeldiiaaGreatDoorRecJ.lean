/-
  'known', reckoned by the kernel.
-/
import Derived.Test.YtmnmdlmmeldiiaaGreatDoorRecC1
import Derived.KernelRfl
namespace PH.R
open Go
set_option maxRecDepth 100000
noncomputable section
theorem kernL : (fun e0 => start env 4 ⟨layT (layG e0), 4⟩ fun c => steps env 54130 c fun c => final env 4 c fun v => asB v fun b => b) = fun _ => true := by kernel_rfl
theorem kern (e0 : Nat) : (start env 4 ⟨layT (layG e0), 4⟩ fun c => steps env 54130 c fun c => final env 4 c fun v => asB v fun b => b) = true := congrFun kernL e0
end
end PH.R
