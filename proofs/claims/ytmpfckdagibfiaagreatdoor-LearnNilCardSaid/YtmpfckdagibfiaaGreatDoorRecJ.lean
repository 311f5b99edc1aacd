/-
  'known', reckoned by the kernel.
-/
import Derived.Test.YtmpfckdagibfiaaGreatDoorRecC1
import Derived.KernelRfl
namespace PH.R
open Go
set_option maxRecDepth 100000
noncomputable section
theorem kern : (start env 5 ⟨.lf, 3⟩ fun c => steps env 62655 c fun c => final env 5 c fun v => asB v fun b => b) = true := by kernel_rfl
end
end PH.R
