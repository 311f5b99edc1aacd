/-
  'known', reckoned by the kernel.
-/
import Derived.Test.YtblikhdllpgeaaaGreatDoorRecC1
import Derived.KernelRfl
namespace PH.R
open Go
set_option maxRecDepth 100000
noncomputable section
theorem kern : (start env 5 ⟨.lf, 3⟩ fun c => steps env 54342 c fun c => final env 5 c fun v => asB v fun b => b) = true := by kernel_rfl
theorem kern2 : (startA env 7 zA ⟨.lf, 3⟩ fun c => steps env 15 c fun c => final env 7 c fun v => asB v fun b => b) = true := by kernel_rfl
end
end PH.R
