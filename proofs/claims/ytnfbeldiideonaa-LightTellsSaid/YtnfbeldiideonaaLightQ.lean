/- A vector laid in a new block: what stays, what lies there. -/
import Derived.Test.YtnfbeldiideonaaLightW
set_option linter.unusedVariables false
set_option linter.unusedSimpArgs false
namespace Go.Proofs.Ytnfbeldiideonaa.LightQ
open Go.RowKit Go.Sort FixM Base Num FixW FixV FixU FixT FixS FixO FixN FixK FixP Qb Qt VecW VecV VecU LightM LightW

theorem put3_row (w : World) (a b c : Int) : ((w.alloc (box3 ⟨0, 0, 0⟩)).setRow w.heap.size #[.int .i64 a, .int .i64 b, .int .i64 c]).heap[w.heap.size]? = some (box3 ⟨a, b, c⟩) :=
  setRow_heap (w.alloc (box3 ⟨0, 0, 0⟩)) w.heap.size _ #[.int .i64 a, .int .i64 b, .int .i64 c] _ _ (heap_alloc_new _ _)
theorem put3_ext (w : World) (a b c : Int) : Below w.heap.size w ((w.alloc (box3 ⟨0, 0, 0⟩)).setRow w.heap.size #[.int .i64 a, .int .i64 b, .int .i64 c]) :=
  below_setRow (ext_alloc w (box3 ⟨0, 0, 0⟩)) (Nat.le_refl _) _
theorem cells_now {W : World} {g : Nat} {T : TypeId} {p q r : Value} (h : W.heap[g]? = some (.cells #[p, q, r] T)) :
    W.cell? ⟨g, 0, none⟩ = some p ∧ W.cell? ⟨g, 1, none⟩ = some q ∧ W.cell? ⟨g, 2, none⟩ = some r := by
  refine ⟨?_, ?_, ?_⟩
  · rw [cell_of_row W g 0 _ _ _ h]; rfl
  · rw [cell_of_row W g 1 _ _ _ h]; rfl
  · rw [cell_of_row W g 2 _ _ _ h]; rfl
end Go.Proofs.Ytnfbeldiideonaa.LightQ
