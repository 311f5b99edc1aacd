/-
  'known', reckoned by the kernel.
-/
import Derived.Test.YtodjdcdbmbmbmaaGreatDoorRecC0
import Derived.KernelRfl
namespace PH.R
open Go
set_option maxRecDepth 100000
noncomputable section
theorem kern : (start env 4 ⟨.lf, 4⟩ fun c => steps env 48215 c fun c => final env 4 c fun v => asB v fun b => b) = true := by kernel_rfl
end
end PH.R
