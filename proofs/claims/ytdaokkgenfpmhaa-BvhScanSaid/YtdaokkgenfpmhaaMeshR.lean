/- The walk of ref12 Box. -/
import Derived.Test.YtdaokkgenfpmhaaMeshQ
set_option linter.unusedVariables false
set_option linter.unusedSimpArgs false
namespace Go.Proofs.Ytdaokkgenfpmhaa.MeshR
open Go.RowKit Go.Sort FixM Base Num FixW Qb Qt Qa Qf VecW VecV VecU LightQ LightC MeshM Rec MeshA MeshB MeshC MeshD MeshE MeshP MeshQ
theorem tri_of (a b c : V3) : triB a b c = ⟨lowV a (lowV b c), highV a (highV b c)⟩ := by
  unfold triB lowV highV min3 max3
  simp only [Bx.mk.injEq, V3.mk.injEq]
  refine ⟨⟨?_, ?_, ?_⟩, ?_, ?_, ?_⟩ <;> (repeat' split) <;> omega

end Go.Proofs.Ytdaokkgenfpmhaa.MeshR
