/- The walk of ref12 low and high. -/
import Derived.Test.YtdmmbhcaejojeaaMeshP
set_option linter.unusedVariables false
set_option linter.unusedSimpArgs false
namespace Go.Proofs.Ytdmmbhcaejojeaa.MeshQ
open Go.RowKit Go.Sort FixM Base Num FixW Qb Qt Qa VecW VecV VecU LightQ LightC MeshM Rec MeshA MeshB MeshC MeshD MeshE MeshP
def lowV (a b : V3) : V3 := ⟨if b.x < a.x then b.x else a.x, if b.y < a.y then b.y else a.y, if b.z < a.z then b.z else a.z⟩
def highV (a b : V3) : V3 := ⟨if b.x > a.x then b.x else a.x, if b.y > a.y then b.y else a.y, if b.z > a.z then b.z else a.z⟩
theorem al_size (w : World) (A : Obj) : (w.alloc A).heap.size = w.heap.size + 1 := by unfold World.alloc; exact Array.size_push _
theorem al3 (w : World) (A B C : Obj) : (((w.alloc A).alloc B).alloc C).heap[w.heap.size + 1 + 1]? = some C := by
  have := heap_alloc_new ((w.alloc A).alloc B) C
  rwa [al_size, al_size] at this
theorem al3_b (w : World) (A B C : Obj) : Below w.heap.size w (((w.alloc A).alloc B).alloc C) := (alloc2_below w A B).trans ((ext_alloc _ _).mono (alloc2_below w A B).size)

set_option maxRecDepth 100000 in
set_option maxHeartbeats 4000000 in
theorem low_any (a b : V3) (w : World) : Calls Try.prog 77 #[vecV a, vecV b] w (VTo (vecV (lowV a b)) w) := by
  obtain ⟨ax, ay, az⟩ := a
  obtain ⟨bx, by', bz⟩ := b
  unfold lowV
  dsimp only
  by_cases hx : bx < ax
  · have dx : decide (bx < ax) = true := decide_eq_true hx
    rw [if_pos hx]
    clear hx
    by_cases hy : by' < ay
    · have dy : decide (by' < ay) = true := decide_eq_true hy
      rw [if_pos hy]
      clear hy
      by_cases hz : bz < az
      · have dz : decide (bz < az) = true := decide_eq_true hz
        rw [if_pos hz]
        clear hz
        go_enter Try.func77, Try.ntmps77
        go_wp2_with fail
        refine bodyPost_ret (results_cell_row rfl _ _ (w.heap.size + 1 + 1) 23 _ _ _ rfl (al3 _ _ _ _) Try.underlying23 rfl vec_size) rfl ?_
        exact ⟨rfl, al3_b _ _ _ _⟩
      · have dz : decide (bz < az) = false := decide_eq_false hz
        rw [if_neg hz]
        clear hz
        go_enter Try.func77, Try.ntmps77
        go_wp2_with fail
        refine bodyPost_ret (results_cell_row rfl _ _ (w.heap.size + 1 + 1) 23 _ _ _ rfl (al3 _ _ _ _) Try.underlying23 rfl vec_size) rfl ?_
        exact ⟨rfl, al3_b _ _ _ _⟩
    · have dy : decide (by' < ay) = false := decide_eq_false hy
      rw [if_neg hy]
      clear hy
      by_cases hz : bz < az
      · have dz : decide (bz < az) = true := decide_eq_true hz
        rw [if_pos hz]
        clear hz
        go_enter Try.func77, Try.ntmps77
        go_wp2_with fail
        refine bodyPost_ret (results_cell_row rfl _ _ (w.heap.size + 1 + 1) 23 _ _ _ rfl (al3 _ _ _ _) Try.underlying23 rfl vec_size) rfl ?_
        exact ⟨rfl, al3_b _ _ _ _⟩
      · have dz : decide (bz < az) = false := decide_eq_false hz
        rw [if_neg hz]
        clear hz
        go_enter Try.func77, Try.ntmps77
        go_wp2_with fail
        refine bodyPost_ret (results_cell_row rfl _ _ (w.heap.size + 1 + 1) 23 _ _ _ rfl (al3 _ _ _ _) Try.underlying23 rfl vec_size) rfl ?_
        exact ⟨rfl, al3_b _ _ _ _⟩
  · have dx : decide (bx < ax) = false := decide_eq_false hx
    rw [if_neg hx]
    clear hx
    by_cases hy : by' < ay
    · have dy : decide (by' < ay) = true := decide_eq_true hy
      rw [if_pos hy]
      clear hy
      by_cases hz : bz < az
      · have dz : decide (bz < az) = true := decide_eq_true hz
        rw [if_pos hz]
        clear hz
        go_enter Try.func77, Try.ntmps77
        go_wp2_with fail
        refine bodyPost_ret (results_cell_row rfl _ _ (w.heap.size + 1 + 1) 23 _ _ _ rfl (al3 _ _ _ _) Try.underlying23 rfl vec_size) rfl ?_
        exact ⟨rfl, al3_b _ _ _ _⟩
      · have dz : decide (bz < az) = false := decide_eq_false hz
        rw [if_neg hz]
        clear hz
        go_enter Try.func77, Try.ntmps77
        go_wp2_with fail
        refine bodyPost_ret (results_cell_row rfl _ _ (w.heap.size + 1 + 1) 23 _ _ _ rfl (al3 _ _ _ _) Try.underlying23 rfl vec_size) rfl ?_
        exact ⟨rfl, al3_b _ _ _ _⟩
    · have dy : decide (by' < ay) = false := decide_eq_false hy
      rw [if_neg hy]
      clear hy
      by_cases hz : bz < az
      · have dz : decide (bz < az) = true := decide_eq_true hz
        rw [if_pos hz]
        clear hz
        go_enter Try.func77, Try.ntmps77
        go_wp2_with fail
        refine bodyPost_ret (results_cell_row rfl _ _ (w.heap.size + 1 + 1) 23 _ _ _ rfl (al3 _ _ _ _) Try.underlying23 rfl vec_size) rfl ?_
        exact ⟨rfl, al3_b _ _ _ _⟩
      · have dz : decide (bz < az) = false := decide_eq_false hz
        rw [if_neg hz]
        clear hz
        go_enter Try.func77, Try.ntmps77
        go_wp2_with fail
        refine bodyPost_ret (results_cell_row rfl _ _ (w.heap.size + 1 + 1) 23 _ _ _ rfl (al3 _ _ _ _) Try.underlying23 rfl vec_size) rfl ?_
        exact ⟨rfl, al3_b _ _ _ _⟩

set_option maxRecDepth 100000 in
set_option maxHeartbeats 4000000 in
theorem high_any (a b : V3) (w : World) : Calls Try.prog 78 #[vecV a, vecV b] w (VTo (vecV (highV a b)) w) := by
  obtain ⟨ax, ay, az⟩ := a
  obtain ⟨bx, by', bz⟩ := b
  unfold highV
  dsimp only
  by_cases hx : bx > ax
  · have dx : decide (ax < bx) = true := decide_eq_true hx
    rw [if_pos hx]
    clear hx
    by_cases hy : by' > ay
    · have dy : decide (ay < by') = true := decide_eq_true hy
      rw [if_pos hy]
      clear hy
      by_cases hz : bz > az
      · have dz : decide (az < bz) = true := decide_eq_true hz
        rw [if_pos hz]
        clear hz
        go_enter Try.func78, Try.ntmps78
        go_wp2_with fail
        refine bodyPost_ret (results_cell_row rfl _ _ (w.heap.size + 1 + 1) 23 _ _ _ rfl (al3 _ _ _ _) Try.underlying23 rfl vec_size) rfl ?_
        exact ⟨rfl, al3_b _ _ _ _⟩
      · have dz : decide (az < bz) = false := decide_eq_false hz
        rw [if_neg hz]
        clear hz
        go_enter Try.func78, Try.ntmps78
        go_wp2_with fail
        refine bodyPost_ret (results_cell_row rfl _ _ (w.heap.size + 1 + 1) 23 _ _ _ rfl (al3 _ _ _ _) Try.underlying23 rfl vec_size) rfl ?_
        exact ⟨rfl, al3_b _ _ _ _⟩
    · have dy : decide (ay < by') = false := decide_eq_false hy
      rw [if_neg hy]
      clear hy
      by_cases hz : bz > az
      · have dz : decide (az < bz) = true := decide_eq_true hz
        rw [if_pos hz]
        clear hz
        go_enter Try.func78, Try.ntmps78
        go_wp2_with fail
        refine bodyPost_ret (results_cell_row rfl _ _ (w.heap.size + 1 + 1) 23 _ _ _ rfl (al3 _ _ _ _) Try.underlying23 rfl vec_size) rfl ?_
        exact ⟨rfl, al3_b _ _ _ _⟩
      · have dz : decide (az < bz) = false := decide_eq_false hz
        rw [if_neg hz]
        clear hz
        go_enter Try.func78, Try.ntmps78
        go_wp2_with fail
        refine bodyPost_ret (results_cell_row rfl _ _ (w.heap.size + 1 + 1) 23 _ _ _ rfl (al3 _ _ _ _) Try.underlying23 rfl vec_size) rfl ?_
        exact ⟨rfl, al3_b _ _ _ _⟩
  · have dx : decide (ax < bx) = false := decide_eq_false hx
    rw [if_neg hx]
    clear hx
    by_cases hy : by' > ay
    · have dy : decide (ay < by') = true := decide_eq_true hy
      rw [if_pos hy]
      clear hy
      by_cases hz : bz > az
      · have dz : decide (az < bz) = true := decide_eq_true hz
        rw [if_pos hz]
        clear hz
        go_enter Try.func78, Try.ntmps78
        go_wp2_with fail
        refine bodyPost_ret (results_cell_row rfl _ _ (w.heap.size + 1 + 1) 23 _ _ _ rfl (al3 _ _ _ _) Try.underlying23 rfl vec_size) rfl ?_
        exact ⟨rfl, al3_b _ _ _ _⟩
      · have dz : decide (az < bz) = false := decide_eq_false hz
        rw [if_neg hz]
        clear hz
        go_enter Try.func78, Try.ntmps78
        go_wp2_with fail
        refine bodyPost_ret (results_cell_row rfl _ _ (w.heap.size + 1 + 1) 23 _ _ _ rfl (al3 _ _ _ _) Try.underlying23 rfl vec_size) rfl ?_
        exact ⟨rfl, al3_b _ _ _ _⟩
    · have dy : decide (ay < by') = false := decide_eq_false hy
      rw [if_neg hy]
      clear hy
      by_cases hz : bz > az
      · have dz : decide (az < bz) = true := decide_eq_true hz
        rw [if_pos hz]
        clear hz
        go_enter Try.func78, Try.ntmps78
        go_wp2_with fail
        refine bodyPost_ret (results_cell_row rfl _ _ (w.heap.size + 1 + 1) 23 _ _ _ rfl (al3 _ _ _ _) Try.underlying23 rfl vec_size) rfl ?_
        exact ⟨rfl, al3_b _ _ _ _⟩
      · have dz : decide (az < bz) = false := decide_eq_false hz
        rw [if_neg hz]
        clear hz
        go_enter Try.func78, Try.ntmps78
        go_wp2_with fail
        refine bodyPost_ret (results_cell_row rfl _ _ (w.heap.size + 1 + 1) 23 _ _ _ rfl (al3 _ _ _ _) Try.underlying23 rfl vec_size) rfl ?_
        exact ⟨rfl, al3_b _ _ _ _⟩
end Go.Proofs.Ytdmmbhcaejojeaa.MeshQ
