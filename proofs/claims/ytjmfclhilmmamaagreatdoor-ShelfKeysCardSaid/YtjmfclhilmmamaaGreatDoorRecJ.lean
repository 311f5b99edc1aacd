/-
  'known', reckoned by the kernel.
-/
import Derived.Test.YtjmfclhilmmamaaGreatDoorRecC1
import Derived.KernelRfl
namespace PH.R
open Go
set_option maxRecDepth 100000
noncomputable section
theorem kern : (start env 7 ⟨.lf, 3⟩ fun c => steps env 70345 c fun c => final env 7 c fun v => asB v fun b => b) = true := by kernel_rfl
end
end PH.R
