/- The walk of light.Bounce. -/
import Derived.Test.YtnfbeldiideonaaLightK
import Derived.Test.YtnfbeldiideonaaQa
set_option linter.unusedVariables false
set_option linter.unusedSimpArgs false
namespace Go.Proofs.Ytnfbeldiideonaa.LightB
open Go.RowKit Go.Sort FixM Base Num FixW FixV FixU FixT FixS FixO FixN FixK FixP Qb Qt VecW VecV VecU LightM LightW LightQ LightK

set_option maxRecDepth 100000 in
set_option maxHeartbeats 2000000 in
theorem mirror_any (d n : V3) (a b : Int) (hd : d.ok) (hn : n.ok) (w : World) : Calls Try.prog 10 #[.int .u8 2, vecV d, vecV n, .int .i64 a, .int .i64 b] w (VTo (vecV (bendF d n)) w) := by
  have C1 := Lib.hid (fun w => vbend_any d n hd hn w)
  obtain ⟨p, hp⟩ : ∃ p, p = bendF d n := ⟨_, rfl⟩
  rw [← hp] at C1 ⊢
  obtain ⟨px, py, pz⟩ := p
  obtain ⟨dx, dy, dz⟩ := d
  obtain ⟨nx, ny, nz⟩ := n
  have H2 := Lib.hid (alloc3_2 w (box3 ⟨dx, dy, dz⟩) (box3 ⟨nx, ny, nz⟩) (box3 ⟨0, 0, 0⟩))
  have BW := Lib.hid (alloc3_below w (box3 ⟨dx, dy, dz⟩) (box3 ⟨nx, ny, nz⟩) (box3 ⟨0, 0, 0⟩))
  clear hd hn hp
  go_enter Try.func10, Try.ntmps10
  go_wp2_with fail
  refine (C1.out _).mono ?_
  rintro e w1 ⟨rfl, hb1⟩
  have HR1 := Lib.hid ((hb1.block _ (by simp)).trans H2.out)
  have HB1 := Lib.hid (BW.out.trans (hb1.mono BW.out.size))
  clear hb1
  have H3 := Lib.hid (setRow_heap w1 (w.heap.size + 1 + 1) _ #[.int .i64 px, .int .i64 py, .int .i64 pz] _ _ HR1.out)
  have HB3 := Lib.hid (below_setRow HB1.out (show w.heap.size ≤ w.heap.size + 1 + 1 by omega) #[.int .i64 px, .int .i64 py, .int .i64 pz])
  go_wp2_with (with_reducible refine store_vec rfl (.tmp 10) (.tmp 23) rfl rfl (w.heap.size + 1 + 1) px py pz rfl rfl _ _ _ HR1.out ?_)
  generalize w1.setRow (w.heap.size + 1 + 1) #[.int .i64 px, .int .i64 py, .int .i64 pz] = w3 at *
  refine bodyPost_ret (results_cell_row rfl _ _ (w.heap.size + 1 + 1) 23 _ _ _ rfl H3.out Try.underlying23 rfl vec_size) rfl ?_
  exact ⟨rfl, HB3.out⟩
end Go.Proofs.Ytnfbeldiideonaa.LightB
