/- The walks of the reference of layer 2. -/
import Derived.Test.YtnfbeldiideonaaVecU
set_option linter.unusedVariables false
set_option linter.unusedSimpArgs false
namespace Go.Proofs.Ytnfbeldiideonaa.VecR
open Go.RowKit Go.Sort FixM Base Num FixW FixV FixU FixT FixS FixO FixN FixK FixP Qb Qt VecW VecV VecU

theorem ra (x y : Int) (hx : In x) (hy : In y) (W : World) (d : Nat) (os : Array Obj) : Calls Try.prog 36 #[.int .i64 x, .int .i64 y] (grow (redrawn W d) os) (fun e w'' => e = .returned (.int .i64 (addF x y)) ∧ ∃ p : Regrown, w'' = grow (redrawn W p.d) p.os) := qs (fun w => radd_any x y hx.1 hx.2 hy.1 hy.2 w) d os

theorem rm (x y : Int) (hx : In x) (hy : In y) (W : World) (d : Nat) (os : Array Obj) : Calls Try.prog 37 #[.int .i64 x, .int .i64 y] (grow (redrawn W d) os) (fun e w'' => e = .returned (.int .i64 (mulF x y)) ∧ ∃ p : Regrown, w'' = grow (redrawn W p.d) p.os) := qs (fun w => rmul_any x y hx.1 hx.2 hy.1 hy.2 w) d os

theorem rs (x y : Int) (hx : In x) (hy : In y) (W : World) (d : Nat) (os : Array Obj) : Calls Try.prog 33 #[.int .i64 x, .int .i64 y] (grow (redrawn W d) os) (fun e w'' => e = .returned (.int .i64 (subF x y)) ∧ ∃ p : Regrown, w'' = grow (redrawn W p.d) p.os) := qs (fun w => rsub_any x y hx.1 hx.2 hy.1 hy.2 w) d os

theorem rd (x y : Int) (hx : In x) (hy : In y) (W : World) (d : Nat) (os : Array Obj) : Calls Try.prog 35 #[.int .i64 x, .int .i64 y] (grow (redrawn W d) os) (fun e w'' => e = .returned (.int .i64 (divF x y)) ∧ ∃ p : Regrown, w'' = grow (redrawn W p.d) p.os) := qs (fun w => rdiv_any x y hx.1 hx.2 hy.1 hy.2 w) d os

set_option maxRecDepth 100000 in
set_option maxHeartbeats 2000000 in
theorem vrsub_any (a b : V3) (ha : a.ok) (hb : b.ok) (w : World) : Calls Try.prog 65 #[vecV a, vecV b] w (VTo (vecV (map2 subF a b)) w) := by
  obtain ⟨ax, ay, az⟩ := a
  obtain ⟨bx, by', bz⟩ := b
  obtain ⟨ha1, ha2, ha3⟩ := ha
  obtain ⟨hb1, hb2, hb3⟩ := hb
  obtain ⟨W, hW⟩ : ∃ W, W = ((w.alloc (box3 ⟨ax, ay, az⟩)).alloc (box3 ⟨bx, by', bz⟩)).alloc (box3 ⟨0, 0, 0⟩) := ⟨_, rfl⟩
  have h0 : W.heap[w.heap.size]? = some (box3 ⟨ax, ay, az⟩) := by rw [hW]; exact alloc3_0 _ _ _ _
  have h1 : W.heap[w.heap.size + 1]? = some (box3 ⟨bx, by', bz⟩) := by rw [hW]; exact alloc3_1 _ _ _ _
  have h2 : W.heap[w.heap.size + 1 + 1]? = some (box3 ⟨0, 0, 0⟩) := by rw [hW]; exact alloc3_2 _ _ _ _
  have hBW : Below w.heap.size w W := by rw [hW]; exact alloc3_below _ _ _ _
  obtain ⟨c0, c1, c2⟩ := cells3 h0
  obtain ⟨d0, d1, d2⟩ := cells3 h1
  have q1 := rs ax bx ha1 hb1 W
  have q2 := rs ay by' ha2 hb2 W
  have q3 := rs az bz ha3 hb3 W
  have H2 := Lib.hid h2
  have HBW := Lib.hid hBW
  have HWW := Lib.hid hW
  have Q1 := Lib.hid q1
  clear q1
  have Q2 := Lib.hid q2
  clear q2
  have Q3 := Lib.hid q3
  clear q3
  clear h0 h1 h2 hBW hW ha1 ha2 ha3 hb1 hb2 hb3
  go_enter Try.func65, Try.ntmps65
  go_wp2_with fail
  rw [← HWW.out]
  refine wp_region_below_tail 16 (by kernel_rfl) (by kernel_rfl) ?_
  simp only [List.take_succ_cons, List.take_zero, List.drop_succ_cons, List.drop_zero]
  repeat (go_big_quiet_step (first | (with_reducible exact Q1.out _ _) | (with_reducible exact Q2.out _ _) | (with_reducible exact Q3.out _ _)))
  refine wpQuiet_nil ?_
  rintro _ ⟨⟨dq, osq⟩, rfl⟩
  refine store_vec rfl (.tmp 4) (.tmp 20) rfl rfl (w.heap.size + 1 + 1) (subF ax bx) (subF ay by') (subF az bz) rfl rfl _ _ _ (heap_regrown H2.out dq osq) ?_
  have hb2 : Below w.heap.size w (grow (redrawn W dq) osq) := HBW.out.trans ((below_regrown W dq osq).mono HBW.out.size)
  have H3 := Lib.hid (setRow_heap (grow (redrawn W dq) osq) (w.heap.size + 1 + 1) _ #[.int .i64 (subF ax bx), .int .i64 (subF ay by'), .int .i64 (subF az bz)] _ _ (heap_regrown H2.out dq osq))
  have HB3 := Lib.hid (below_setRow hb2 (show w.heap.size ≤ w.heap.size + 1 + 1 by omega) #[.int .i64 (subF ax bx), .int .i64 (subF ay by'), .int .i64 (subF az bz)])
  clear hb2
  generalize (grow (redrawn W dq) osq).setRow (w.heap.size + 1 + 1) #[.int .i64 (subF ax bx), .int .i64 (subF ay by'), .int .i64 (subF az bz)] = w3 at *
  go_wp2_with fail
  refine bodyPost_ret (results_cell_row rfl _ _ (w.heap.size + 1 + 1) 23 _ _ _ rfl H3.out Try.underlying23 rfl vec_size) rfl ?_
  exact ⟨rfl, HB3.out⟩

set_option maxRecDepth 100000 in
set_option maxHeartbeats 2000000 in
theorem vrmul_any (a b : V3) (ha : a.ok) (hb : b.ok) (w : World) : Calls Try.prog 72 #[vecV a, vecV b] w (VTo (vecV (map2 mulF a b)) w) := by
  obtain ⟨ax, ay, az⟩ := a
  obtain ⟨bx, by', bz⟩ := b
  obtain ⟨ha1, ha2, ha3⟩ := ha
  obtain ⟨hb1, hb2, hb3⟩ := hb
  obtain ⟨W, hW⟩ : ∃ W, W = ((w.alloc (box3 ⟨ax, ay, az⟩)).alloc (box3 ⟨bx, by', bz⟩)).alloc (box3 ⟨0, 0, 0⟩) := ⟨_, rfl⟩
  have h0 : W.heap[w.heap.size]? = some (box3 ⟨ax, ay, az⟩) := by rw [hW]; exact alloc3_0 _ _ _ _
  have h1 : W.heap[w.heap.size + 1]? = some (box3 ⟨bx, by', bz⟩) := by rw [hW]; exact alloc3_1 _ _ _ _
  have h2 : W.heap[w.heap.size + 1 + 1]? = some (box3 ⟨0, 0, 0⟩) := by rw [hW]; exact alloc3_2 _ _ _ _
  have hBW : Below w.heap.size w W := by rw [hW]; exact alloc3_below _ _ _ _
  obtain ⟨c0, c1, c2⟩ := cells3 h0
  obtain ⟨d0, d1, d2⟩ := cells3 h1
  have q1 := rm ax bx ha1 hb1 W
  have q2 := rm ay by' ha2 hb2 W
  have q3 := rm az bz ha3 hb3 W
  have H2 := Lib.hid h2
  have HBW := Lib.hid hBW
  have HWW := Lib.hid hW
  have Q1 := Lib.hid q1
  clear q1
  have Q2 := Lib.hid q2
  clear q2
  have Q3 := Lib.hid q3
  clear q3
  clear h0 h1 h2 hBW hW ha1 ha2 ha3 hb1 hb2 hb3
  go_enter Try.func72, Try.ntmps72
  go_wp2_with fail
  rw [← HWW.out]
  refine wp_region_below_tail 16 (by kernel_rfl) (by kernel_rfl) ?_
  simp only [List.take_succ_cons, List.take_zero, List.drop_succ_cons, List.drop_zero]
  repeat (go_big_quiet_step (first | (with_reducible exact Q1.out _ _) | (with_reducible exact Q2.out _ _) | (with_reducible exact Q3.out _ _)))
  refine wpQuiet_nil ?_
  rintro _ ⟨⟨dq, osq⟩, rfl⟩
  refine store_vec rfl (.tmp 4) (.tmp 20) rfl rfl (w.heap.size + 1 + 1) (mulF ax bx) (mulF ay by') (mulF az bz) rfl rfl _ _ _ (heap_regrown H2.out dq osq) ?_
  have hb2 : Below w.heap.size w (grow (redrawn W dq) osq) := HBW.out.trans ((below_regrown W dq osq).mono HBW.out.size)
  have H3 := Lib.hid (setRow_heap (grow (redrawn W dq) osq) (w.heap.size + 1 + 1) _ #[.int .i64 (mulF ax bx), .int .i64 (mulF ay by'), .int .i64 (mulF az bz)] _ _ (heap_regrown H2.out dq osq))
  have HB3 := Lib.hid (below_setRow hb2 (show w.heap.size ≤ w.heap.size + 1 + 1 by omega) #[.int .i64 (mulF ax bx), .int .i64 (mulF ay by'), .int .i64 (mulF az bz)])
  clear hb2
  generalize (grow (redrawn W dq) osq).setRow (w.heap.size + 1 + 1) #[.int .i64 (mulF ax bx), .int .i64 (mulF ay by'), .int .i64 (mulF az bz)] = w3 at *
  go_wp2_with fail
  refine bodyPost_ret (results_cell_row rfl _ _ (w.heap.size + 1 + 1) 23 _ _ _ rfl H3.out Try.underlying23 rfl vec_size) rfl ?_
  exact ⟨rfl, HB3.out⟩

set_option maxRecDepth 100000 in
set_option maxHeartbeats 2000000 in
theorem vrscale_any (a : V3) (s : Int) (ha : a.ok) (hs : In s) (w : World) : Calls Try.prog 66 #[vecV a, .int .i64 s] w (VTo (vecV (map1 (fun x => mulF x s) a)) w) := by
  have C1 := Lib.hid (fun w => vrmul_any a ⟨s, s, s⟩ ha ⟨hs, hs, hs⟩ w)
  obtain ⟨ax, ay, az⟩ := a
  have H2 := Lib.hid (alloc2_1 w (box3 ⟨ax, ay, az⟩) (box3 ⟨0, 0, 0⟩))
  have BW := Lib.hid (alloc2_below w (box3 ⟨ax, ay, az⟩) (box3 ⟨0, 0, 0⟩))
  clear ha hs
  go_enter Try.func66, Try.ntmps66
  go_wp2_with fail
  refine (C1.out _).mono ?_
  rintro e w1 ⟨rfl, hb1⟩
  have HR1 := Lib.hid ((hb1.block _ (by simp)).trans H2.out)
  have HB1 := Lib.hid (BW.out.trans (hb1.mono BW.out.size))
  clear hb1
  simp only [vecV, map2]
  have H3 := Lib.hid (setRow_heap w1 (w.heap.size + 1) _ #[.int .i64 (mulF ax s), .int .i64 (mulF ay s), .int .i64 (mulF az s)] _ _ HR1.out)
  have HB3 := Lib.hid (below_setRow HB1.out (show w.heap.size ≤ w.heap.size + 1 by omega) #[.int .i64 (mulF ax s), .int .i64 (mulF ay s), .int .i64 (mulF az s)])
  go_wp2_with (with_reducible refine store_vec rfl (.tmp 4) (.tmp 10) rfl rfl (w.heap.size + 1) (mulF ax s) (mulF ay s) (mulF az s) rfl rfl _ _ _ HR1.out ?_)
  generalize w1.setRow (w.heap.size + 1) #[.int .i64 (mulF ax s), .int .i64 (mulF ay s), .int .i64 (mulF az s)] = w3 at *
  refine bodyPost_ret (results_cell_row rfl _ _ (w.heap.size + 1) 23 _ _ _ rfl H3.out Try.underlying23 rfl vec_size) rfl ?_
  exact ⟨rfl, HB3.out⟩

set_option maxRecDepth 100000 in
set_option maxHeartbeats 2000000 in
theorem vrdot_any (a b : V3) (ha : a.ok) (hb : b.ok) (w : World) : Calls Try.prog 64 #[vecV a, vecV b] w (VTo (.int .i64 (dotF a b)) w) := by
  obtain ⟨ax, ay, az⟩ := a
  obtain ⟨bx, by', bz⟩ := b
  obtain ⟨ha1, ha2, ha3⟩ := ha
  obtain ⟨hb1, hb2, hb3⟩ := hb
  obtain ⟨W, hW⟩ : ∃ W, W = (w.alloc (box3 ⟨ax, ay, az⟩)).alloc (box3 ⟨bx, by', bz⟩) := ⟨_, rfl⟩
  have h0 : W.heap[w.heap.size]? = some (box3 ⟨ax, ay, az⟩) := by rw [hW]; exact alloc2_0 _ _ _
  have h1 : W.heap[w.heap.size + 1]? = some (box3 ⟨bx, by', bz⟩) := by rw [hW]; exact alloc2_1 _ _ _
  have hBW : Below w.heap.size w W := by rw [hW]; exact alloc2_below _ _ _
  obtain ⟨c0, c1, c2⟩ := cells3 h0
  obtain ⟨d0, d1, d2⟩ := cells3 h1
  have q1 := rm ax bx ha1 hb1 W
  have q2 := rm ay by' ha2 hb2 W
  have q3 := ra (mulF ax bx) (mulF ay by') (in_mul _ _) (in_mul _ _) W
  have Q1 := Lib.hid q1
  clear q1
  have Q2 := Lib.hid q2
  clear q2
  have Q3 := Lib.hid q3
  clear q3
  have C4 := Lib.hid (fun w => rmul_any az bz ha3.1 ha3.2 hb3.1 hb3.2 w)
  have i1 := in_add (mulF ax bx) (mulF ay by')
  have i2 := in_mul az bz
  have C5 := Lib.hid (fun w => radd_any (addF (mulF ax bx) (mulF ay by')) (mulF az bz) i1.1 i1.2 i2.1 i2.2 w)
  have H0 := Lib.hid h0
  have H1 := Lib.hid h1
  have HBW := Lib.hid hBW
  have HWW := Lib.hid hW
  clear h0 h1 hBW hW ha1 ha2 ha3 hb1 hb2 hb3 i1 i2
  go_enter Try.func64, Try.ntmps64
  go_wp2_with fail
  rw [← HWW.out]
  refine wp_region_quiet_below (by kernel_rfl) (by kernel_rfl) ?_
  repeat (go_big_quiet_step (first | (with_reducible exact Q1.out _ _) | (with_reducible exact Q2.out _ _) | (with_reducible exact Q3.out _ _)))
  refine wpQuiet_nil ?_
  rintro _ ⟨⟨dq, osq⟩, rfl⟩
  have HF := Lib.hid (HBW.out.trans ((below_regrown W dq osq).mono HBW.out.size))
  have e0 := c2 dq osq
  have e1 := d2 dq osq
  clear c0 c1 c2 d0 d1 d2
  generalize grow (redrawn W dq) osq = W1 at *
  go_wp2_with fail
  refine (C4.out _).mono ?_
  rintro e w1 ⟨rfl, rfl⟩
  go_wp2_with fail
  refine (C5.out _).mono ?_
  rintro e w1 ⟨rfl, rfl⟩
  go_wp2_with fail
  go_ret
  exact ⟨rfl, HF.out⟩

set_option maxRecDepth 100000 in
set_option maxHeartbeats 2000000 in
theorem vrlen_any (a : V3) (ha : a.ok) (w : World) : Calls Try.prog 62 #[vecV a] w (VTo (.int .i64 (lenF a)) w) := by
  have C1 := Lib.hid (fun w => vrdot_any a a ha ha w)
  have hd := in_dot a a
  have C2 := Lib.hid (fun w => rsqrt_any (dotF a a) hd.1 hd.2 w)
  have HL := Lib.hid (show lenF a = sqrtF (dotF a a) from rfl)
  obtain ⟨ax, ay, az⟩ := a
  have BW := Lib.hid (ext_alloc w (box3 ⟨ax, ay, az⟩))
  clear ha hd
  go_enter Try.func62, Try.ntmps62
  go_wp2_with fail
  refine (C1.out _).mono ?_
  rintro e w1 ⟨rfl, hb1⟩
  have HB1 := Lib.hid (BW.out.trans (hb1.mono BW.out.size))
  clear hb1
  go_wp2_with fail
  refine (C2.out _).mono ?_
  rintro e w1 ⟨rfl, rfl⟩
  go_wp2_with fail
  go_ret
  exact ⟨ret_int HL.out.symm, HB1.out⟩

set_option maxRecDepth 100000 in
set_option maxHeartbeats 2000000 in
theorem vrunit_any (a : V3) (ha : a.ok) (w : World) : Calls Try.prog 32 #[vecV a] w (VTo (vecV (unitF a)) w) := by
  have C1 := Lib.hid (fun w => vrlen_any a ha w)
  have hl := in_len a
  have HU0 := Lib.hid (show lenF a = 0 → unitF a = ⟨0, 0, 0⟩ from fun h => by unfold unitF; rw [if_pos h])
  have HU1 := Lib.hid (show lenF a ≠ 0 → unitF a = map1 (fun x => divF x (lenF a)) a from fun h => by unfold unitF; rw [if_neg h])
  obtain ⟨n, hn⟩ : ∃ n, n = lenF a := ⟨_, rfl⟩
  rw [← hn] at C1 hl HU0 HU1
  obtain ⟨ax, ay, az⟩ := a
  obtain ⟨ha1, ha2, ha3⟩ := ha
  have H2 := Lib.hid (alloc2_1 w (box3 ⟨ax, ay, az⟩) (box3 ⟨0, 0, 0⟩))
  have H0 := Lib.hid (alloc2_0 w (box3 ⟨ax, ay, az⟩) (box3 ⟨0, 0, 0⟩))
  have BW := Lib.hid (alloc2_below w (box3 ⟨ax, ay, az⟩) (box3 ⟨0, 0, 0⟩))
  have C2 := Lib.hid (fun W d os => rd ax n ha1 hl W d os)
  have C3 := Lib.hid (fun W d os => rd ay n ha2 hl W d os)
  have C4 := Lib.hid (fun W d os => rd az n ha3 hl W d os)
  clear ha1 ha2 ha3 hn hl
  go_enter Try.func32, Try.ntmps32
  go_wp2_with fail
  refine (C1.out _).mono ?_
  rintro e w1 ⟨rfl, hb1⟩
  have g0 := (hb1.block _ (by simp; omega)).trans H0.out
  have HR1 := Lib.hid ((hb1.block _ (by simp)).trans H2.out)
  have HB1 := Lib.hid (BW.out.trans (hb1.mono BW.out.size))
  obtain ⟨c0, c1, c2⟩ := cells3 g0
  have Q1 := Lib.hid (C2.out w1)
  have Q2 := Lib.hid (C3.out w1)
  have Q3 := Lib.hid (C4.out w1)
  clear hb1 g0 C2 C3 C4
  by_cases h0 : n = 0
  · have HUU := Lib.hid (HU0.out h0)
    have b0 : (n == 0) = true := by simpa using h0
    clear h0
    have H3 := Lib.hid (setRow_heap w1 (w.heap.size + 1) _ #[.int .i64 (0), .int .i64 (0), .int .i64 (0)] _ _ HR1.out)
    have HB3 := Lib.hid (below_setRow HB1.out (show w.heap.size ≤ w.heap.size + 1 by omega) #[.int .i64 (0), .int .i64 (0), .int .i64 (0)])
    go_wp2_with (with_reducible refine store_vec rfl (.tmp 2) (.tmp 8) rfl rfl (w.heap.size + 1) (0) (0) (0) rfl rfl _ _ _ HR1.out ?_)
    generalize w1.setRow (w.heap.size + 1) #[.int .i64 (0), .int .i64 (0), .int .i64 (0)] = w3 at *
    refine bodyPost_ret (results_cell_row rfl _ _ (w.heap.size + 1) 23 _ _ _ rfl H3.out Try.underlying23 rfl vec_size) rfl ?_
    exact ⟨by rw [HUU.out], HB3.out⟩
  · have HUU := Lib.hid (HU1.out h0)
    have b0 : (n == 0) = false := by simpa using h0
    clear h0
    go_wp2_with fail
    refine wp_region_below_tail 13 (by kernel_rfl) (by kernel_rfl) ?_
    simp only [List.take_succ_cons, List.take_zero, List.drop_succ_cons, List.drop_zero]
    repeat (go_big_quiet_step (first | (with_reducible exact Q1.out _ _) | (with_reducible exact Q2.out _ _) | (with_reducible exact Q3.out _ _)))
    refine wpQuiet_nil ?_
    rintro _ ⟨⟨dq, osq⟩, rfl⟩
    refine store_vec rfl (.tmp 2) (.tmp 21) rfl rfl (w.heap.size + 1) (divF ax n) (divF ay n) (divF az n) rfl rfl _ _ _ (heap_regrown HR1.out dq osq) ?_
    have hb2 : Below w.heap.size w (grow (redrawn w1 dq) osq) := HB1.out.trans ((below_regrown w1 dq osq).mono HB1.out.size)
    have H3 := Lib.hid (setRow_heap (grow (redrawn w1 dq) osq) (w.heap.size + 1) _ #[.int .i64 (divF ax n), .int .i64 (divF ay n), .int .i64 (divF az n)] _ _ (heap_regrown HR1.out dq osq))
    have HB3 := Lib.hid (below_setRow hb2 (show w.heap.size ≤ w.heap.size + 1 by omega) #[.int .i64 (divF ax n), .int .i64 (divF ay n), .int .i64 (divF az n)])
    clear hb2
    generalize (grow (redrawn w1 dq) osq).setRow (w.heap.size + 1) #[.int .i64 (divF ax n), .int .i64 (divF ay n), .int .i64 (divF az n)] = w3 at *
    go_wp2_with fail
    refine bodyPost_ret (results_cell_row rfl _ _ (w.heap.size + 1) 23 _ _ _ rfl H3.out Try.underlying23 rfl vec_size) rfl ?_
    exact ⟨by rw [HUU.out]; rfl, HB3.out⟩

set_option maxRecDepth 100000 in
set_option maxHeartbeats 2000000 in
theorem vrcross_any (a b : V3) (ha : a.ok) (hb : b.ok) (w : World) : Calls Try.prog 34 #[vecV a, vecV b] w (VTo (vecV (crossF a b)) w) := by
  obtain ⟨ax, ay, az⟩ := a
  obtain ⟨bx, by', bz⟩ := b
  obtain ⟨ha1, ha2, ha3⟩ := ha
  obtain ⟨hb1, hb2, hb3⟩ := hb
  obtain ⟨W, hW⟩ : ∃ W, W = ((w.alloc (box3 ⟨ax, ay, az⟩)).alloc (box3 ⟨bx, by', bz⟩)).alloc (box3 ⟨0, 0, 0⟩) := ⟨_, rfl⟩
  have h0 : W.heap[w.heap.size]? = some (box3 ⟨ax, ay, az⟩) := by rw [hW]; exact alloc3_0 _ _ _ _
  have h1 : W.heap[w.heap.size + 1]? = some (box3 ⟨bx, by', bz⟩) := by rw [hW]; exact alloc3_1 _ _ _ _
  have h2 : W.heap[w.heap.size + 1 + 1]? = some (box3 ⟨0, 0, 0⟩) := by rw [hW]; exact alloc3_2 _ _ _ _
  have hBW : Below w.heap.size w W := by rw [hW]; exact alloc3_below _ _ _ _
  obtain ⟨c0, c1, c2⟩ := cells3 h0
  obtain ⟨d0, d1, d2⟩ := cells3 h1
  have q1 := fun W => rm ay bz ha2 hb3 W
  have q2 := fun W => rm az by' ha3 hb2 W
  have q3 := fun W => rm az bx ha3 hb1 W
  have q4 := fun W => rm ax bz ha1 hb3 W
  have q5 := fun W => rm ax by' ha1 hb2 W
  have q6 := fun W => rm ay bx ha2 hb1 W
  have q7 := fun W => rs (mulF ay bz) (mulF az by') (in_mul _ _) (in_mul _ _) W
  have q8 := fun W => rs (mulF az bx) (mulF ax bz) (in_mul _ _) (in_mul _ _) W
  have q9 := fun W => rs (mulF ax by') (mulF ay bx) (in_mul _ _) (in_mul _ _) W
  have H2 := Lib.hid h2
  have H0 := Lib.hid h0
  have H1 := Lib.hid h1
  have HBW := Lib.hid hBW
  have HWW := Lib.hid hW
  have Q1 := Lib.hid q1
  clear q1
  have Q2 := Lib.hid q2
  clear q2
  have Q3 := Lib.hid q3
  clear q3
  have Q4 := Lib.hid q4
  clear q4
  have Q5 := Lib.hid q5
  clear q5
  have Q6 := Lib.hid q6
  clear q6
  have Q7 := Lib.hid q7
  clear q7
  have Q8 := Lib.hid q8
  clear q8
  have Q9 := Lib.hid q9
  clear q9
  clear h0 h1 h2 hBW hW ha1 ha2 ha3 hb1 hb2 hb3 c0 c1 c2 d0 d1 d2
  go_enter Try.func34, Try.ntmps34
  go_wp2_with fail
  rw [← HWW.out]

  obtain ⟨c0, c1, c2⟩ := cells3 H0.out
  obtain ⟨d0, d1, d2⟩ := cells3 H1.out
  refine wp_region_quiet_below (by kernel_rfl) (by kernel_rfl) ?_
  repeat (go_big_quiet_step (first | (with_reducible exact Q1.out _ _ _) | (with_reducible exact Q2.out _ _ _) | (with_reducible exact Q7.out _ _ _)))
  refine wpQuiet_nil ?_
  rintro _ ⟨⟨dq, osq⟩, rfl⟩
  clear c0 c1 c2 d0 d1 d2
  have H01 := Lib.hid (heap_regrown H0.out dq osq)
  have H11 := Lib.hid (heap_regrown H1.out dq osq)
  have H21 := Lib.hid (heap_regrown H2.out dq osq)
  have HB1 := Lib.hid (HBW.out.trans ((below_regrown W dq osq).mono HBW.out.size))
  generalize grow (redrawn W dq) osq = W1 at *
  go_wp2_with fail
  obtain ⟨c0, c1, c2⟩ := cells3 H01.out
  obtain ⟨d0, d1, d2⟩ := cells3 H11.out
  refine wp_region_quiet_below (by kernel_rfl) (by kernel_rfl) ?_
  repeat (go_big_quiet_step (first | (with_reducible exact Q3.out _ _ _) | (with_reducible exact Q4.out _ _ _) | (with_reducible exact Q8.out _ _ _)))
  refine wpQuiet_nil ?_
  rintro _ ⟨⟨dq, osq⟩, rfl⟩
  clear c0 c1 c2 d0 d1 d2
  have H02 := Lib.hid (heap_regrown H01.out dq osq)
  have H12 := Lib.hid (heap_regrown H11.out dq osq)
  have H22 := Lib.hid (heap_regrown H21.out dq osq)
  have HB2 := Lib.hid (HB1.out.trans ((below_regrown W1 dq osq).mono HB1.out.size))
  generalize grow (redrawn W1 dq) osq = W2 at *
  go_wp2_with fail
  obtain ⟨c0, c1, c2⟩ := cells3 H02.out
  obtain ⟨d0, d1, d2⟩ := cells3 H12.out
  refine wp_region_quiet_below (by kernel_rfl) (by kernel_rfl) ?_
  repeat (go_big_quiet_step (first | (with_reducible exact Q5.out _ _ _) | (with_reducible exact Q6.out _ _ _) | (with_reducible exact Q9.out _ _ _)))
  refine wpQuiet_nil ?_
  rintro _ ⟨⟨dq, osq⟩, rfl⟩
  clear c0 c1 c2 d0 d1 d2
  have HR1 := Lib.hid (heap_regrown H22.out dq osq)
  have HB1' := Lib.hid (HB2.out.trans ((below_regrown W2 dq osq).mono HB2.out.size))
  generalize grow (redrawn W2 dq) osq = w1 at *
  have H3 := Lib.hid (setRow_heap w1 (w.heap.size + 1 + 1) _ #[.int .i64 (subF (mulF ay bz) (mulF az by')), .int .i64 (subF (mulF az bx) (mulF ax bz)), .int .i64 (subF (mulF ax by') (mulF ay bx))] _ _ HR1.out)
  have HB3 := Lib.hid (below_setRow HB1'.out (show w.heap.size ≤ w.heap.size + 1 + 1 by omega) #[.int .i64 (subF (mulF ay bz) (mulF az by')), .int .i64 (subF (mulF az bx) (mulF ax bz)), .int .i64 (subF (mulF ax by') (mulF ay bx))])
  go_wp2_with (with_reducible refine store_vec rfl (.tmp 4) (.tmp 44) rfl rfl (w.heap.size + 1 + 1) (subF (mulF ay bz) (mulF az by')) (subF (mulF az bx) (mulF ax bz)) (subF (mulF ax by') (mulF ay bx)) rfl rfl _ _ _ HR1.out ?_)
  generalize w1.setRow (w.heap.size + 1 + 1) #[.int .i64 (subF (mulF ay bz) (mulF az by')), .int .i64 (subF (mulF az bx) (mulF ax bz)), .int .i64 (subF (mulF ax by') (mulF ay bx))] = w3 at *
  refine bodyPost_ret (results_cell_row rfl _ _ (w.heap.size + 1 + 1) 23 _ _ _ rfl H3.out Try.underlying23 rfl vec_size) rfl ?_
  exact ⟨rfl, HB3.out⟩

set_option maxRecDepth 100000 in
set_option maxHeartbeats 2000000 in
theorem vrbend_any (a b : V3) (ha : a.ok) (hb : b.ok) (w : World) : Calls Try.prog 45 #[vecV a, vecV b] w (VTo (vecV (bendF a b)) w) := by
  have C1 := Lib.hid (fun w => vrdot_any a b ha hb w)
  have hi := in_dot a b
  have C2 := fun W d os => ra (dotF a b) (dotF a b) hi hi W d os
  have C3 := fun W => qb (P := Try.prog) (W := W) (fun w2 _ => vrscale_any b (addF (dotF a b) (dotF a b)) hb (in_add _ _) w2)
  have C4 := fun W => qb (P := Try.prog) (W := W) (fun w2 _ => vrsub_any a (map1 (fun x => mulF x (addF (dotF a b) (dotF a b))) b) ha (ok_map1 (fun x => in_mul _ _) b) w2)
  obtain ⟨x, hx⟩ : ∃ x, x = dotF a b := ⟨_, rfl⟩
  have HX := Lib.hid (show bendF a b = map2 subF a (map1 (fun t => mulF t (addF x x)) b) by rw [hx]; rfl)
  rw [← hx] at C1 C2 C3 C4
  have hb' := hb
  clear hx hi
  obtain ⟨ax, ay, az⟩ := a
  obtain ⟨bx, by', bz⟩ := b
  obtain ⟨W, hW⟩ : ∃ W, W = ((w.alloc (box3 ⟨ax, ay, az⟩)).alloc (box3 ⟨bx, by', bz⟩)).alloc (box3 ⟨0, 0, 0⟩) := ⟨_, rfl⟩
  have h0 : W.heap[w.heap.size]? = some (box3 ⟨ax, ay, az⟩) := by rw [hW]; exact alloc3_0 _ _ _ _
  have h1 : W.heap[w.heap.size + 1]? = some (box3 ⟨bx, by', bz⟩) := by rw [hW]; exact alloc3_1 _ _ _ _
  have h2 : W.heap[w.heap.size + 1 + 1]? = some (box3 ⟨0, 0, 0⟩) := by rw [hW]; exact alloc3_2 _ _ _ _
  have hBW : Below w.heap.size w W := by rw [hW]; exact alloc3_below _ _ _ _
  have C5 := Lib.hid C2
  have C6 := Lib.hid C3
  have C7 := Lib.hid C4
  have H0 := Lib.hid h0
  have H1 := Lib.hid h1
  have H2 := Lib.hid h2
  have HBW := Lib.hid hBW
  have HWW := Lib.hid hW
  clear h0 h1 h2 hBW hW C2 C3 C4 ha hb hb'
  go_enter Try.func45, Try.ntmps45
  go_wp2_with fail
  rw [← HWW.out]
  refine (C1.out _).mono ?_
  rintro e w1 ⟨rfl, hb1⟩
  have g0 := (hb1.block _ (lt_of_heap H0.out)).trans H0.out
  have g1 := (hb1.block _ (lt_of_heap H1.out)).trans H1.out
  have G2 := Lib.hid ((hb1.block _ (lt_of_heap H2.out)).trans H2.out)
  have GB := Lib.hid (HBW.out.trans (hb1.mono HBW.out.size))
  obtain ⟨c0, c1, c2⟩ := cells3 g0
  obtain ⟨d0, d1, d2⟩ := cells3 g1
  have q1 := C5.out w1
  have q2 := C6.out w1
  have q3 := C7.out w1
  simp only [vecV, map1, map2] at q2 q3
  have Q1 := Lib.hid q1
  have Q2 := Lib.hid q2
  have Q3 := Lib.hid q3
  clear hb1 g0 g1 q1 q2 q3
  go_wp2_with fail
  refine wp_region_below_tail 7 (by kernel_rfl) (by kernel_rfl) ?_
  simp only [List.take_succ_cons, List.take_zero, List.drop_succ_cons, List.drop_zero]
  repeat (go_big_quiet_step (first | (with_reducible exact Q1.out _ _) | (with_reducible exact Q2.out _ _) | (with_reducible exact Q3.out _ _)))
  refine wpQuiet_nil ?_
  rintro _ ⟨⟨dq, osq⟩, rfl⟩
  refine store_vec rfl (.tmp 4) (.tmp 15) rfl rfl (w.heap.size + 1 + 1) (subF ax (mulF bx (addF x x))) (subF ay (mulF by' (addF x x))) (subF az (mulF bz (addF x x))) rfl rfl _ _ _ (heap_regrown G2.out dq osq) ?_
  have hb2 : Below w.heap.size w (grow (redrawn w1 dq) osq) := GB.out.trans ((below_regrown w1 dq osq).mono GB.out.size)
  have H3 := Lib.hid (setRow_heap (grow (redrawn w1 dq) osq) (w.heap.size + 1 + 1) _ #[.int .i64 (subF ax (mulF bx (addF x x))), .int .i64 (subF ay (mulF by' (addF x x))), .int .i64 (subF az (mulF bz (addF x x)))] _ _ (heap_regrown G2.out dq osq))
  have HB3 := Lib.hid (below_setRow hb2 (show w.heap.size ≤ w.heap.size + 1 + 1 by omega) #[.int .i64 (subF ax (mulF bx (addF x x))), .int .i64 (subF ay (mulF by' (addF x x))), .int .i64 (subF az (mulF bz (addF x x)))])
  clear hb2
  generalize (grow (redrawn w1 dq) osq).setRow (w.heap.size + 1 + 1) #[.int .i64 (subF ax (mulF bx (addF x x))), .int .i64 (subF ay (mulF by' (addF x x))), .int .i64 (subF az (mulF bz (addF x x)))] = w3 at *
  go_wp2_with fail
  refine bodyPost_ret (results_cell_row rfl _ _ (w.heap.size + 1 + 1) 23 _ _ _ rfl H3.out Try.underlying23 rfl vec_size) rfl ?_
  exact ⟨by rw [HX.out]; rfl, HB3.out⟩

end Go.Proofs.Ytnfbeldiideonaa.VecR
