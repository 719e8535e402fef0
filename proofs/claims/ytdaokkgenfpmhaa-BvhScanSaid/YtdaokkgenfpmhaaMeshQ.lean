/- The walk of ref12 low and high. -/
import Derived.Test.YtdaokkgenfpmhaaMeshP
set_option linter.unusedVariables false
set_option linter.unusedSimpArgs false
namespace Go.Proofs.Ytdaokkgenfpmhaa.MeshQ
open Go.RowKit Go.Sort FixM Base Num FixW Qb Qt Qa VecW VecV VecU LightQ LightC MeshM Rec MeshA MeshB MeshC MeshD MeshE MeshP
def lowV (a b : V3) : V3 := ⟨if b.x < a.x then b.x else a.x, if b.y < a.y then b.y else a.y, if b.z < a.z then b.z else a.z⟩
def highV (a b : V3) : V3 := ⟨if b.x > a.x then b.x else a.x, if b.y > a.y then b.y else a.y, if b.z > a.z then b.z else a.z⟩
theorem al_size (w : World) (A : Obj) : (w.alloc A).heap.size = w.heap.size + 1 := by unfold World.alloc; exact Array.size_push _
theorem al3 (w : World) (A B C : Obj) : (((w.alloc A).alloc B).alloc C).heap[w.heap.size + 1 + 1]? = some C := by
  have := heap_alloc_new ((w.alloc A).alloc B) C
  rwa [al_size, al_size] at this
theorem al3_b (w : World) (A B C : Obj) : Below w.heap.size w (((w.alloc A).alloc B).alloc C) := (alloc2_below w A B).trans ((ext_alloc _ _).mono (alloc2_below w A B).size)

end Go.Proofs.Ytdaokkgenfpmhaa.MeshQ
