/- The walks of the reference of layer 21: what goes part by part. -/
import Derived.Test.YtnfbeldiideonaaVecR
import Derived.Test.YtnfbeldiideonaaLightQ
set_option linter.unusedVariables false
set_option linter.unusedSimpArgs false
namespace Go.Proofs.Ytnfbeldiideonaa.LightR
open Go.RowKit Go.Sort FixM Base Num FixW FixV FixU FixT FixS FixO FixN FixK FixP Qb Qt VecW VecV VecU VecR LightM LightW LightQ

set_option maxRecDepth 100000 in
set_option maxHeartbeats 2000000 in
theorem ladd_any (a b : V3) (ha : a.ok) (hb : b.ok) (w : World) : Calls Try.prog 38 #[vecV a, vecV b] w (VTo (vecV (map2 addF a b)) w) := by
  obtain ⟨ax, ay, az⟩ := a
  obtain ⟨bx, by', bz⟩ := b
  obtain ⟨ha1, ha2, ha3⟩ := ha
  obtain ⟨hb1, hb2, hb3⟩ := hb
  obtain ⟨W, hW⟩ : ∃ W, W = ((w.alloc (box3 ⟨ax, ay, az⟩)).alloc (box3 ⟨bx, by', bz⟩)).alloc (box3 ⟨0, 0, 0⟩) := ⟨_, rfl⟩
  have h0 : W.heap[w.heap.size]? = some (box3 ⟨ax, ay, az⟩) := by rw [hW]; exact alloc3_0 _ _ _ _
  have h1 : W.heap[w.heap.size + 1]? = some (box3 ⟨bx, by', bz⟩) := by rw [hW]; exact alloc3_1 _ _ _ _
  have h2 : W.heap[w.heap.size + 1 + 1]? = some (box3 ⟨0, 0, 0⟩) := by rw [hW]; exact alloc3_2 _ _ _ _
  have hBW : Below w.heap.size w W := by rw [hW]; exact alloc3_below _ _ _ _
  obtain ⟨c0, c1, c2⟩ := cells3 h0
  obtain ⟨d0, d1, d2⟩ := cells3 h1
  have q1 := ra ax bx ha1 hb1 W
  have q2 := ra ay by' ha2 hb2 W
  have q3 := ra az bz ha3 hb3 W
  have H2 := Lib.hid h2
  have HBW := Lib.hid hBW
  have HWW := Lib.hid hW
  have Q1 := Lib.hid q1
  clear q1
  have Q2 := Lib.hid q2
  clear q2
  have Q3 := Lib.hid q3
  clear q3
  clear h0 h1 h2 hBW hW ha1 ha2 ha3 hb1 hb2 hb3
  go_enter Try.func38, Try.ntmps38
  go_wp2_with fail
  rw [← HWW.out]
  refine wp_region_below_tail 16 (by kernel_rfl) (by kernel_rfl) ?_
  simp only [List.take_succ_cons, List.take_zero, List.drop_succ_cons, List.drop_zero]
  repeat (go_big_quiet_step (first | (with_reducible exact Q1.out _ _) | (with_reducible exact Q2.out _ _) | (with_reducible exact Q3.out _ _)))
  refine wpQuiet_nil ?_
  rintro _ ⟨⟨dq, osq⟩, rfl⟩
  refine store_vec rfl (.tmp 4) (.tmp 20) rfl rfl (w.heap.size + 1 + 1) (addF ax bx) (addF ay by') (addF az bz) rfl rfl _ _ _ (heap_regrown H2.out dq osq) ?_
  have hb2 : Below w.heap.size w (grow (redrawn W dq) osq) := HBW.out.trans ((below_regrown W dq osq).mono HBW.out.size)
  have H3 := Lib.hid (setRow_heap (grow (redrawn W dq) osq) (w.heap.size + 1 + 1) _ #[.int .i64 (addF ax bx), .int .i64 (addF ay by'), .int .i64 (addF az bz)] _ _ (heap_regrown H2.out dq osq))
  have HB3 := Lib.hid (below_setRow hb2 (show w.heap.size ≤ w.heap.size + 1 + 1 by omega) #[.int .i64 (addF ax bx), .int .i64 (addF ay by'), .int .i64 (addF az bz)])
  clear hb2
  generalize (grow (redrawn W dq) osq).setRow (w.heap.size + 1 + 1) #[.int .i64 (addF ax bx), .int .i64 (addF ay by'), .int .i64 (addF az bz)] = w3 at *
  go_wp2_with fail
  refine bodyPost_ret (results_cell_row rfl _ _ (w.heap.size + 1 + 1) 23 _ _ _ rfl H3.out Try.underlying23 rfl vec_size) rfl ?_
  exact ⟨rfl, HB3.out⟩

set_option maxRecDepth 100000 in
set_option maxHeartbeats 2000000 in
theorem lscale_any (a : V3) (s : Int) (hs : In s) (ha : a.ok) (w : World) : Calls Try.prog 39 #[vecV a, .int .i64 s] w (VTo (vecV (map1 (fun x => mulF x s) a)) w) := by
  obtain ⟨ax, ay, az⟩ := a
  obtain ⟨ha1, ha2, ha3⟩ := ha
  obtain ⟨W, hW⟩ : ∃ W, W = (w.alloc (box3 ⟨ax, ay, az⟩)).alloc (box3 ⟨0, 0, 0⟩) := ⟨_, rfl⟩
  have h0 : W.heap[w.heap.size]? = some (box3 ⟨ax, ay, az⟩) := by rw [hW]; exact alloc2_0 _ _ _
  have h2 : W.heap[w.heap.size + 1]? = some (box3 ⟨0, 0, 0⟩) := by rw [hW]; exact alloc2_1 _ _ _
  have hBW : Below w.heap.size w W := by rw [hW]; exact alloc2_below _ _ _
  have f0 := rm ax s ha1 hs W
  have f1 := rm ay s ha2 hs W
  have f2 := rm az s ha3 hs W
  obtain ⟨c0, c1, c2⟩ := cells3 h0
  have F0 := Lib.hid f0
  have F1 := Lib.hid f1
  have F2 := Lib.hid f2
  have H2 := Lib.hid h2
  have BW := Lib.hid hBW
  have HWW := Lib.hid hW
  clear f0 f1 f2 h0 h2 hBW hW ha1 ha2 ha3
  go_enter Try.func39, Try.ntmps39
  go_wp2_with fail
  rw [← HWW.out]
  refine wp_region_below_tail 13 (by kernel_rfl) (by kernel_rfl) ?_
  simp only [List.take_succ_cons, List.take_zero, List.drop_succ_cons, List.drop_zero]
  repeat (go_big_quiet_step (first | (with_reducible exact F0.out _ _) | (with_reducible exact F1.out _ _) | (with_reducible exact F2.out _ _)))
  refine wpQuiet_nil ?_
  rintro _ ⟨⟨dq, osq⟩, rfl⟩
  refine store_vec rfl (.tmp 4) (.tmp 17) rfl rfl (w.heap.size + 1) (mulF ax s) (mulF ay s) (mulF az s) rfl rfl _ _ _ (heap_regrown H2.out dq osq) ?_
  have hb2 : Below w.heap.size w (grow (redrawn W dq) osq) := BW.out.trans ((below_regrown W dq osq).mono BW.out.size)
  have h3 := setRow_heap (grow (redrawn W dq) osq) (w.heap.size + 1) _ #[.int .i64 (mulF ax s), .int .i64 (mulF ay s), .int .i64 (mulF az s)] _ _ (heap_regrown H2.out dq osq)
  have hb3 := below_setRow hb2 (show w.heap.size ≤ w.heap.size + 1 by omega) #[.int .i64 (mulF ax s), .int .i64 (mulF ay s), .int .i64 (mulF az s)]
  have H3 := Lib.hid h3
  have HB3 := Lib.hid hb3
  clear h3 hb3 hb2 c0 c1 c2
  generalize (grow (redrawn W dq) osq).setRow (w.heap.size + 1) #[.int .i64 (mulF ax s), .int .i64 (mulF ay s), .int .i64 (mulF az s)] = w3 at *
  go_wp2_with fail
  refine bodyPost_ret (results_cell_row rfl _ _ (w.heap.size + 1) 23 _ _ _ rfl H3.out Try.underlying23 rfl vec_size) rfl ?_
  exact ⟨rfl, HB3.out⟩

set_option maxRecDepth 100000 in
set_option maxHeartbeats 2000000 in
theorem rclamp_any (x : Int) (hx : In x) (w : World) : Calls Try.prog 49 #[.int .i64 x] w fun e w' => e = .returned (.int .i64 (clampL x)) ∧ w = w' := by
  by_cases h0 : x < 0
  · have e0 : clampL x = 0 := by unfold clampL; rw [if_pos h0]
    have b0 : decide (x < 0) = true := by simpa using h0
    go_enter Try.func49, Try.ntmps49
    go_wp2_with fail
    go_ret
    exact ⟨by first | rfl | (rw [e0]; rfl), rfl⟩
  · have b0 : decide (x < 0) = false := by simpa using h0
    by_cases h1 : x > 4294967296
    · have e0 : clampL x = 4294967296 := by unfold clampL; rw [if_neg h0, if_pos h1]
      have b1 : decide (x > 4294967296) = true := by simpa using h1
      have b2 : decide (4294967296 < x) = true := by simpa using h1
      go_enter Try.func49, Try.ntmps49
      go_wp2_with fail
      go_ret
      exact ⟨by first | rfl | (rw [e0]; rfl), rfl⟩
    · have e0 : clampL x = x := by unfold clampL; rw [if_neg h0, if_neg h1]
      have b1 : decide (x > 4294967296) = false := by simpa using h1
      have b2 : decide (4294967296 < x) = false := by simpa using h1
      go_enter Try.func49, Try.ntmps49
      go_wp2_with fail
      go_ret
      exact ⟨by first | rfl | (rw [e0]; rfl), rfl⟩

set_option maxRecDepth 100000 in
set_option maxHeartbeats 2000000 in
theorem rClamp_any (a : V3) (ha : a.ok) (w : World) : Calls Try.prog 14 #[vecV a] w (VTo (vecV (map1 clampL a)) w) := by
  obtain ⟨ax, ay, az⟩ := a
  obtain ⟨ha1, ha2, ha3⟩ := ha
  obtain ⟨W, hW⟩ : ∃ W, W = (w.alloc (box3 ⟨ax, ay, az⟩)).alloc (box3 ⟨0, 0, 0⟩) := ⟨_, rfl⟩
  have h0 : W.heap[w.heap.size]? = some (box3 ⟨ax, ay, az⟩) := by rw [hW]; exact alloc2_0 _ _ _
  have h2 : W.heap[w.heap.size + 1]? = some (box3 ⟨0, 0, 0⟩) := by rw [hW]; exact alloc2_1 _ _ _
  have hBW : Below w.heap.size w W := by rw [hW]; exact alloc2_below _ _ _
  have f0 := qs (P := Try.prog) (W := W) (fun w => rclamp_any ax ha1 w)
  have f1 := qs (P := Try.prog) (W := W) (fun w => rclamp_any ay ha2 w)
  have f2 := qs (P := Try.prog) (W := W) (fun w => rclamp_any az ha3 w)
  obtain ⟨c0, c1, c2⟩ := cells3 h0
  have F0 := Lib.hid f0
  have F1 := Lib.hid f1
  have F2 := Lib.hid f2
  have H2 := Lib.hid h2
  have BW := Lib.hid hBW
  have HWW := Lib.hid hW
  clear f0 f1 f2 h0 h2 hBW hW ha1 ha2 ha3
  go_enter Try.func14, Try.ntmps14
  go_wp2_with fail
  rw [← HWW.out]
  refine wp_region_below_tail 10 (by kernel_rfl) (by kernel_rfl) ?_
  simp only [List.take_succ_cons, List.take_zero, List.drop_succ_cons, List.drop_zero]
  repeat (go_big_quiet_step (first | (with_reducible exact F0.out _ _) | (with_reducible exact F1.out _ _) | (with_reducible exact F2.out _ _)))
  refine wpQuiet_nil ?_
  rintro _ ⟨⟨dq, osq⟩, rfl⟩
  refine store_vec rfl (.tmp 2) (.tmp 12) rfl rfl (w.heap.size + 1) (clampL ax) (clampL ay) (clampL az) rfl rfl _ _ _ (heap_regrown H2.out dq osq) ?_
  have hb2 : Below w.heap.size w (grow (redrawn W dq) osq) := BW.out.trans ((below_regrown W dq osq).mono BW.out.size)
  have h3 := setRow_heap (grow (redrawn W dq) osq) (w.heap.size + 1) _ #[.int .i64 (clampL ax), .int .i64 (clampL ay), .int .i64 (clampL az)] _ _ (heap_regrown H2.out dq osq)
  have hb3 := below_setRow hb2 (show w.heap.size ≤ w.heap.size + 1 by omega) #[.int .i64 (clampL ax), .int .i64 (clampL ay), .int .i64 (clampL az)]
  have H3 := Lib.hid h3
  have HB3 := Lib.hid hb3
  clear h3 hb3 hb2 c0 c1 c2
  generalize (grow (redrawn W dq) osq).setRow (w.heap.size + 1) #[.int .i64 (clampL ax), .int .i64 (clampL ay), .int .i64 (clampL az)] = w3 at *
  go_wp2_with fail
  refine bodyPost_ret (results_cell_row rfl _ _ (w.heap.size + 1) 23 _ _ _ rfl H3.out Try.underlying23 rfl vec_size) rfl ?_
  exact ⟨rfl, HB3.out⟩

end Go.Proofs.Ytnfbeldiideonaa.LightR
