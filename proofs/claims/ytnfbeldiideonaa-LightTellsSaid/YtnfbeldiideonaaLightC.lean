/- The walk of light.Look. -/
import Derived.Test.YtnfbeldiideonaaLightQ
set_option linter.unusedVariables false
set_option linter.unusedSimpArgs false
namespace Go.Proofs.Ytnfbeldiideonaa.LightC
open Go.RowKit Go.Sort FixM Base Num FixW FixV FixU FixT FixS FixO FixN FixK FixP Qb Qt VecW VecV VecU LightM LightW LightQ

abbrev rayV (o d : V3) : Value := .agg #[.int .i64 o.x, .int .i64 o.y, .int .i64 o.z, .int .i64 d.x, .int .i64 d.y, .int .i64 d.z]

theorem cell_all {W : World} {g : Nat} {T : TypeId} {row : Array Value} (h : W.heap[g]? = some (.cells row T)) (k : Nat) (v : Value) (hv : row[k]? = some v) : ∀ d os, (grow (redrawn W d) os).cell? ⟨g, k, none⟩ = some v :=
  fun d os => cell_regrown (by rw [cell_of_row W g k _ _ _ h]; exact hv) d os
theorem look_size : (Try.prog.info? 45).map (·.size) = some 8 := by kernel_rfl
theorem ones8 (a b c d e f g h : Int) : ∀ v ∈ (#[Value.int .i64 a, .int .i64 b, .int .i64 c, .int .i64 d, .int .i64 e, .int .i64 f, .int .i64 g, .int .i64 h] : Array Value).toList, v.oneCell' = true := by
  intro v hv; simp at hv; rcases hv with rfl | rfl | rfl | rfl | rfl | rfl | rfl | rfl <;> rfl
def lookP (o d : V3) (t : Int) : V3 := map2 addF o (map1 (fun x => mulF x t) d)
abbrev lookV (o d n : V3) (t u v : Int) : Value := .agg #[.int .i64 u, .int .i64 v, .int .i64 (lookP o d t).x, .int .i64 (lookP o d t).y, .int .i64 (lookP o d t).z, .int .i64 n.x, .int .i64 n.y, .int .i64 n.z]

set_option maxRecDepth 100000 in
set_option maxHeartbeats 2000000 in
theorem look_any (o d n : V3) (t i u v : Int) (ho : o.ok) (hd : d.ok) (ht : In t) (w : World) : Calls Try.prog 12 #[rayV o d, .agg #[.int .i64 t, .int .i64 i, .int .i64 u, .int .i64 v], vecV n] w (VTo (lookV o d n t u v) w) := by
  have v1 := fun W => qb (P := Try.prog) (W := W) (fun w2 _ => vscale_any d t hd ht w2)
  have v2 := fun W => qb (P := Try.prog) (W := W) (fun w2 _ => vadd_any o (map1 (fun x => mulF x t) d) ho (ok_map1 (fun x => in_mul _ _) d) w2)
  obtain ⟨ox, oy, oz⟩ := o
  obtain ⟨dx, dy, dz⟩ := d
  obtain ⟨nx, ny, nz⟩ := n
  obtain ⟨W, hW⟩ : ∃ W, W = (((w.alloc (.cells #[.int .i64 ox, .int .i64 oy, .int .i64 oz, .int .i64 dx, .int .i64 dy, .int .i64 dz] 41)).alloc (.cells #[.int .i64 t, .int .i64 i, .int .i64 u, .int .i64 v] 37)).alloc (box3 ⟨nx, ny, nz⟩)).alloc (.cells #[.int .i64 0, .int .i64 0, .int .i64 0, .int .i64 0, .int .i64 0, .int .i64 0, .int .i64 0, .int .i64 0] 45) := ⟨_, rfl⟩
  have h0 : W.heap[w.heap.size]? = some (.cells #[.int .i64 ox, .int .i64 oy, .int .i64 oz, .int .i64 dx, .int .i64 dy, .int .i64 dz] 41) := by rw [hW, heap_alloc_old _ _ (by simp; omega)]; exact alloc3_0 _ _ _ _
  have h1 : W.heap[w.heap.size + 1]? = some (.cells #[.int .i64 t, .int .i64 i, .int .i64 u, .int .i64 v] 37) := by rw [hW, heap_alloc_old _ _ (by simp)]; exact alloc3_1 _ _ _ _
  have h2 : W.heap[w.heap.size + 1 + 1]? = some (box3 ⟨nx, ny, nz⟩) := by rw [hW, heap_alloc_old _ _ (by simp)]; exact alloc3_2 _ _ _ _
  have h3 : W.heap[w.heap.size + 1 + 1 + 1]? = some (.cells #[.int .i64 0, .int .i64 0, .int .i64 0, .int .i64 0, .int .i64 0, .int .i64 0, .int .i64 0, .int .i64 0] 45) := by rw [hW]; have := heap_alloc_new (((w.alloc (.cells #[.int .i64 ox, .int .i64 oy, .int .i64 oz, .int .i64 dx, .int .i64 dy, .int .i64 dz] 41)).alloc (.cells #[.int .i64 t, .int .i64 i, .int .i64 u, .int .i64 v] 37)).alloc (box3 ⟨nx, ny, nz⟩)) (.cells #[.int .i64 0, .int .i64 0, .int .i64 0, .int .i64 0, .int .i64 0, .int .i64 0, .int .i64 0, .int .i64 0] 45); simpa using this
  have hBW : Below w.heap.size w W := by rw [hW]; exact (alloc3_below _ _ _ _).alloc (by simp; omega) _
  have r0 := cell_all h0 0 _ rfl
  have r1 := cell_all h0 1 _ rfl
  have r2 := cell_all h0 2 _ rfl
  have r3 := cell_all h0 3 _ rfl
  have r4 := cell_all h0 4 _ rfl
  have r5 := cell_all h0 5 _ rfl
  have i0 := cell_all h1 0 _ rfl
  have i2 := cell_all h1 2 _ rfl
  have i3 := cell_all h1 3 _ rfl
  have n0 := cell_all h2 0 _ rfl
  have n1 := cell_all h2 1 _ rfl
  have n2 := cell_all h2 2 _ rfl
  have q1 := v1 W
  have q2 := v2 W
  simp only [vecV, map1, map2] at q1 q2
  have Q1 := Lib.hid q1
  have Q2 := Lib.hid q2
  have H3 := Lib.hid h3
  have BW := Lib.hid hBW
  have HWW := Lib.hid hW
  clear q1 q2 h0 h1 h2 h3 hBW hW v1 v2 ho hd ht
  go_enter Try.func12, Try.ntmps12
  go_wp2_with fail
  rw [← HWW.out]
  refine wp_region_below_tail 14 (by kernel_rfl) (by kernel_rfl) ?_
  simp only [List.take_succ_cons, List.take_zero, List.drop_succ_cons, List.drop_zero]
  repeat (go_big_quiet_step (first | (with_reducible exact Q1.out _ _) | (with_reducible exact Q2.out _ _)))
  refine wpQuiet_nil ?_
  rintro _ ⟨⟨dq, osq⟩, rfl⟩
  refine wpList_store_arr rfl 45 (.tmp 6) (.tmp 20) rfl (w.heap.size + 1 + 1 + 1) #[.int .i64 u, .int .i64 v, .int .i64 (addF ox (mulF dx t)), .int .i64 (addF oy (mulF dy t)), .int .i64 (addF oz (mulF dz t)), .int .i64 nx, .int .i64 ny, .int .i64 nz] rfl rfl 45 _ (heap_regrown H3.out dq osq) look_size rfl (ones8 _ _ _ _ _ _ _ _) rfl ?_
  have hb2 : Below w.heap.size w (grow (redrawn W dq) osq) := BW.out.trans ((below_regrown W dq osq).mono BW.out.size)
  have H4 := Lib.hid (setRow_heap (grow (redrawn W dq) osq) (w.heap.size + 1 + 1 + 1) _ #[.int .i64 u, .int .i64 v, .int .i64 (addF ox (mulF dx t)), .int .i64 (addF oy (mulF dy t)), .int .i64 (addF oz (mulF dz t)), .int .i64 nx, .int .i64 ny, .int .i64 nz] _ _ (heap_regrown H3.out dq osq))
  have HB4 := Lib.hid (below_setRow hb2 (show w.heap.size ≤ w.heap.size + 1 + 1 + 1 by omega) #[.int .i64 u, .int .i64 v, .int .i64 (addF ox (mulF dx t)), .int .i64 (addF oy (mulF dy t)), .int .i64 (addF oz (mulF dz t)), .int .i64 nx, .int .i64 ny, .int .i64 nz])
  clear hb2
  generalize (grow (redrawn W dq) osq).setRow (w.heap.size + 1 + 1 + 1) #[.int .i64 u, .int .i64 v, .int .i64 (addF ox (mulF dx t)), .int .i64 (addF oy (mulF dy t)), .int .i64 (addF oz (mulF dz t)), .int .i64 nx, .int .i64 ny, .int .i64 nz] = w3 at *
  go_wp2_with fail
  refine bodyPost_ret (results_cell_row rfl _ _ (w.heap.size + 1 + 1 + 1) 45 _ _ _ rfl H4.out Try.underlying45 rfl look_size) rfl ?_
  exact ⟨rfl, HB4.out⟩
end Go.Proofs.Ytnfbeldiideonaa.LightC
