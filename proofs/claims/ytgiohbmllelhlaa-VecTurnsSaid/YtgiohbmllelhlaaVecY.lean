/- The laws of layer 2. -/
import Derived.Test.YtgiohbmllelhlaaVecR
set_option linter.unusedVariables false
set_option linter.unusedSimpArgs false
namespace Go.Proofs.Ytgiohbmllelhlaa.VecY
open Go.RowKit Go.Sort FixM Base Num FixW FixV FixU FixT FixS FixO FixN FixK FixP Qb Qt VecW VecV VecU VecR

set_option maxRecDepth 100000 in
set_option maxHeartbeats 4000000 in
theorem of_any (x y z : Int) (hx : -1000 ≤ x ∧ x ≤ 1000 ∧ -1000 ≤ y ∧ y ≤ 1000 ∧ -1000 ≤ z ∧ z ≤ 1000) (w : World) : Calls Try.prog 13 #[.int .i64 x, .int .i64 y, .int .i64 z] w (VTo (vecV ⟨x * 4294967296, y * 4294967296, z * 4294967296⟩) w) := by
  obtain ⟨h1, h2, h3, h4, h5, h6⟩ := hx
  go_enter Try.func13, Try.ntmps13
  go_wp2_with fail
  refine bodyPost_ret (results_cell_row rfl _ _ w.heap.size 23 _ _ _ rfl (heap_alloc_new _ _) Try.underlying23 rfl vec_size) rfl ?_
  exact ⟨rfl, ext_alloc _ _⟩
theorem litV {f : FuncId} {args : Array Value} {p : V3} (h : ∀ w, Calls Try.prog f args w (VTo (vecV p) w)) (a b c : Int) (e : p.x = a ∧ p.y = b ∧ p.z = c) (w : World) : Calls Try.prog f args w (VTo (.agg #[.int .i64 a, .int .i64 b, .int .i64 c]) w) := by
  obtain ⟨rfl, rfl, rfl⟩ := e; exact h w
theorem litI {f : FuncId} {args : Array Value} {x : Int} (h : ∀ w, Calls Try.prog f args w (VTo (.int .i64 x) w)) (a : Int) (e : x = a) (w : World) : Calls Try.prog f args w (VTo (.int .i64 a) w) := by
  subst e; exact h w
instance (a : Int) : Decidable (In a) := by unfold In; infer_instance
instance (a : V3) : Decidable a.ok := by unfold V3.ok; infer_instance

set_option maxRecDepth 100000 in
set_option maxHeartbeats 4000000 in
theorem awake_any (w : World) : Calls Try.prog 16 #[] w (VTo (.bool true) w) := by
  have B0 := Lib.hid (Below.refl w.heap.size w)
  go_enter Try.func16, Try.ntmps16
  go_wp2_with fail
  refine ((litV (of_any 1 2 3 (by decide)) 4294967296 8589934592 12884901888 (by decide +kernel)) _).mono ?_
  rintro e w1 ⟨rfl, hb⟩
  have B1 := Lib.hid (B0.out.trans (hb.mono B0.out.size))
  clear hb B0
  go_wp2_with fail
  refine ((litV (of_any 1 1 1 (by decide)) 4294967296 4294967296 4294967296 (by decide +kernel)) _).mono ?_
  rintro e w2 ⟨rfl, hb⟩
  have B2 := Lib.hid (B1.out.trans (hb.mono B1.out.size))
  clear hb B1
  go_wp2_with fail
  refine ((litV (vadd_any ⟨4294967296, 8589934592, 12884901888⟩ ⟨4294967296, 4294967296, 4294967296⟩ (by decide) (by decide)) 8589934592 12884901888 17179869184 (by decide +kernel)) _).mono ?_
  rintro e w3 ⟨rfl, hb⟩
  have B3 := Lib.hid (B2.out.trans (hb.mono B2.out.size))
  clear hb B2
  go_wp2_with fail
  refine ((litV (of_any 2 3 4 (by decide)) 8589934592 12884901888 17179869184 (by decide +kernel)) _).mono ?_
  rintro e w4 ⟨rfl, hb⟩
  have B4 := Lib.hid (B3.out.trans (hb.mono B3.out.size))
  clear hb B3
  go_wp2_with fail
  refine ((litV (of_any 1 2 3 (by decide)) 4294967296 8589934592 12884901888 (by decide +kernel)) _).mono ?_
  rintro e w5 ⟨rfl, hb⟩
  have B5 := Lib.hid (B4.out.trans (hb.mono B4.out.size))
  clear hb B4
  go_wp2_with fail
  refine ((litV (of_any 4 5 6 (by decide)) 17179869184 21474836480 25769803776 (by decide +kernel)) _).mono ?_
  rintro e w6 ⟨rfl, hb⟩
  have B6 := Lib.hid (B5.out.trans (hb.mono B5.out.size))
  clear hb B5
  go_wp2_with fail
  refine ((litI (vdot_any ⟨4294967296, 8589934592, 12884901888⟩ ⟨17179869184, 21474836480, 25769803776⟩ (by decide) (by decide)) 137438953472 (by decide +kernel)) _).mono ?_
  rintro e w7 ⟨rfl, hb⟩
  have B7 := Lib.hid (B6.out.trans (hb.mono B6.out.size))
  clear hb B6
  go_wp2_with fail
  refine ((litV (of_any 1 0 0 (by decide)) 4294967296 0 0 (by decide +kernel)) _).mono ?_
  rintro e w8 ⟨rfl, hb⟩
  have B8 := Lib.hid (B7.out.trans (hb.mono B7.out.size))
  clear hb B7
  go_wp2_with fail
  refine ((litV (of_any 0 1 0 (by decide)) 0 4294967296 0 (by decide +kernel)) _).mono ?_
  rintro e w9 ⟨rfl, hb⟩
  have B9 := Lib.hid (B8.out.trans (hb.mono B8.out.size))
  clear hb B8
  go_wp2_with fail
  refine ((litV (vcross_any ⟨4294967296, 0, 0⟩ ⟨0, 4294967296, 0⟩ (by decide) (by decide)) 0 0 4294967296 (by decide +kernel)) _).mono ?_
  rintro e w10 ⟨rfl, hb⟩
  have B10 := Lib.hid (B9.out.trans (hb.mono B9.out.size))
  clear hb B9
  go_wp2_with fail
  refine ((litV (of_any 0 0 1 (by decide)) 0 0 4294967296 (by decide +kernel)) _).mono ?_
  rintro e w11 ⟨rfl, hb⟩
  have B11 := Lib.hid (B10.out.trans (hb.mono B10.out.size))
  clear hb B10
  go_wp2_with fail
  refine ((litV (of_any 3 4 0 (by decide)) 12884901888 17179869184 0 (by decide +kernel)) _).mono ?_
  rintro e w12 ⟨rfl, hb⟩
  have B12 := Lib.hid (B11.out.trans (hb.mono B11.out.size))
  clear hb B11
  go_wp2_with fail
  refine ((litI (vlen_any ⟨12884901888, 17179869184, 0⟩ (by decide)) 21474836480 (by decide +kernel)) _).mono ?_
  rintro e w13 ⟨rfl, hb⟩
  have B13 := Lib.hid (B12.out.trans (hb.mono B12.out.size))
  clear hb B12
  go_wp2_with fail
  refine ((litV (of_any 0 0 2 (by decide)) 0 0 8589934592 (by decide +kernel)) _).mono ?_
  rintro e w14 ⟨rfl, hb⟩
  have B14 := Lib.hid (B13.out.trans (hb.mono B13.out.size))
  clear hb B13
  go_wp2_with fail
  refine ((litV (vunit_any ⟨0, 0, 8589934592⟩ (by decide)) 0 0 4294967296 (by decide +kernel)) _).mono ?_
  rintro e w15 ⟨rfl, hb⟩
  have B15 := Lib.hid (B14.out.trans (hb.mono B14.out.size))
  clear hb B14
  go_wp2_with fail
  refine ((litV (of_any 0 0 1 (by decide)) 0 0 4294967296 (by decide +kernel)) _).mono ?_
  rintro e w16 ⟨rfl, hb⟩
  have B16 := Lib.hid (B15.out.trans (hb.mono B15.out.size))
  clear hb B15
  go_wp2_with fail
  refine ((litV (vunit_any ⟨0, 0, 0⟩ (by decide)) 0 0 0 (by decide +kernel)) _).mono ?_
  rintro e w17 ⟨rfl, hb⟩
  have B17 := Lib.hid (B16.out.trans (hb.mono B16.out.size))
  clear hb B16
  go_wp2_with fail
  refine ((litV (of_any 1 (-1) 0 (by decide)) 4294967296 (-4294967296) 0 (by decide +kernel)) _).mono ?_
  rintro e w18 ⟨rfl, hb⟩
  have B18 := Lib.hid (B17.out.trans (hb.mono B17.out.size))
  clear hb B17
  go_wp2_with fail
  refine ((litV (of_any 0 1 0 (by decide)) 0 4294967296 0 (by decide +kernel)) _).mono ?_
  rintro e w19 ⟨rfl, hb⟩
  have B19 := Lib.hid (B18.out.trans (hb.mono B18.out.size))
  clear hb B18
  go_wp2_with fail
  refine ((litV (vbend_any ⟨4294967296, -4294967296, 0⟩ ⟨0, 4294967296, 0⟩ (by decide) (by decide)) 4294967296 4294967296 0 (by decide +kernel)) _).mono ?_
  rintro e w20 ⟨rfl, hb⟩
  have B20 := Lib.hid (B19.out.trans (hb.mono B19.out.size))
  clear hb B19
  go_wp2_with fail
  refine ((litV (of_any 1 1 0 (by decide)) 4294967296 4294967296 0 (by decide +kernel)) _).mono ?_
  rintro e w21 ⟨rfl, hb⟩
  have B21 := Lib.hid (B20.out.trans (hb.mono B20.out.size))
  clear hb B20
  go_wp2_with fail
  go_ret
  exact ⟨rfl, B21.out⟩

set_option maxRecDepth 100000 in
set_option maxHeartbeats 4000000 in
theorem tells_any (a b : V3) (s : Int) (ha : a.ok) (hb : b.ok) (hs : In s) (w : World) : Calls Try.prog 4 #[vecV a, vecV b, .int .i64 s] w fun e w' => e = .returned (.bool true) ∧ Below w.heap.size w w' := by
  have Q1 := Lib.hid (fun W => qb (P := Try.prog) (W := W) (fun w2 _ => vadd_any a b ha hb w2))
  have Q2 := Lib.hid (fun W => qb (P := Try.prog) (W := W) (fun w2 _ => vradd_any a b ha hb w2))
  have Q3 := Lib.hid (fun W => qb (P := Try.prog) (W := W) (fun w2 _ => vsub_any a b ha hb w2))
  have Q4 := Lib.hid (fun W => qb (P := Try.prog) (W := W) (fun w2 _ => vrsub_any a b ha hb w2))
  have Q5 := Lib.hid (fun W => qb (P := Try.prog) (W := W) (fun w2 _ => vneg_any a ha w2))
  have Q6 := Lib.hid (fun W => qb (P := Try.prog) (W := W) (fun w2 _ => vrneg_any a ha w2))
  have Q7 := Lib.hid (fun W => qb (P := Try.prog) (W := W) (fun w2 _ => vscale_any a s ha hs w2))
  have Q8 := Lib.hid (fun W => qb (P := Try.prog) (W := W) (fun w2 _ => vrscale_any a s ha hs w2))
  have Q9 := Lib.hid (fun W => qb (P := Try.prog) (W := W) (fun w2 _ => vmul_any a b ha hb w2))
  have Q10 := Lib.hid (fun W => qb (P := Try.prog) (W := W) (fun w2 _ => vrmul_any a b ha hb w2))
  have Q11 := Lib.hid (fun W => qb (P := Try.prog) (W := W) (fun w2 _ => vdot_any a b ha hb w2))
  have Q12 := Lib.hid (fun W => qb (P := Try.prog) (W := W) (fun w2 _ => vrdot_any a b ha hb w2))
  have Q13 := Lib.hid (fun W => qb (P := Try.prog) (W := W) (fun w2 _ => vcross_any a b ha hb w2))
  have Q14 := Lib.hid (fun W => qb (P := Try.prog) (W := W) (fun w2 _ => vrcross_any a b ha hb w2))
  have Q15 := Lib.hid (fun W => qb (P := Try.prog) (W := W) (fun w2 _ => vlen_any a ha w2))
  have Q16 := Lib.hid (fun W => qb (P := Try.prog) (W := W) (fun w2 _ => vrlen_any a ha w2))
  have Q17 := Lib.hid (fun W => qb (P := Try.prog) (W := W) (fun w2 _ => vunit_any a ha w2))
  have Q18 := Lib.hid (fun W => qb (P := Try.prog) (W := W) (fun w2 _ => vrunit_any a ha w2))
  have Q19 := Lib.hid (fun W => qb (P := Try.prog) (W := W) (fun w2 _ => vbend_any a b ha hb w2))
  have Q20 := Lib.hid (fun W => qb (P := Try.prog) (W := W) (fun w2 _ => vrbend_any a b ha hb w2))
  obtain ⟨W, hW⟩ : ∃ W, W = (w.alloc (box3 a)).alloc (box3 b) := ⟨_, rfl⟩
  have h0 : W.heap[w.heap.size]? = some (box3 a) := by rw [hW]; exact alloc2_0 _ _ _
  have h1 : W.heap[w.heap.size + 1]? = some (box3 b) := by rw [hW]; exact alloc2_1 _ _ _
  have hBW : Below w.heap.size w W := by rw [hW]; exact alloc2_below _ _ _
  obtain ⟨c0, c1, c2⟩ := cells3 h0
  obtain ⟨d0, d1, d2⟩ := cells3 h1
  have H0 := Lib.hid h0
  have H1 := Lib.hid h1
  have HBW := Lib.hid hBW
  have HWW := Lib.hid hW
  clear h0 h1 hBW hW ha hb hs
  go_enter Try.func4, Try.ntmps4
  go_wp2_with fail
  rw [← HWW.out]
  refine wp_region_quiet_below (by kernel_rfl) (by kernel_rfl) ?_
  repeat (go_big_quiet_step (first | (with_reducible exact Q1.out _ _ _) | (with_reducible exact Q2.out _ _ _) | (with_reducible exact Q3.out _ _ _) | (with_reducible exact Q4.out _ _ _) | (with_reducible exact Q5.out _ _ _) | (with_reducible exact Q6.out _ _ _) | (with_reducible exact Q7.out _ _ _) | (with_reducible exact Q8.out _ _ _) | (with_reducible exact Q9.out _ _ _) | (with_reducible exact Q10.out _ _ _)))
  refine wpQuiet_nil ?_
  rintro _ ⟨⟨dq, osq⟩, rfl⟩
  clear c0 c1 c2 d0 d1 d2
  have H0' := Lib.hid (heap_regrown H0.out dq osq)
  have H1' := Lib.hid (heap_regrown H1.out dq osq)
  have HB' := Lib.hid (HBW.out.trans ((below_regrown W dq osq).mono HBW.out.size))
  generalize grow (redrawn W dq) osq = W1 at *
  obtain ⟨c0, c1, c2⟩ := cells3 H0'.out
  obtain ⟨d0, d1, d2⟩ := cells3 H1'.out
  go_wp2_with fail
  refine wp_region_quiet_below (by kernel_rfl) (by kernel_rfl) ?_
  repeat (go_big_quiet_step (first | (with_reducible exact Q11.out _ _ _) | (with_reducible exact Q12.out _ _ _) | (with_reducible exact Q13.out _ _ _) | (with_reducible exact Q14.out _ _ _) | (with_reducible exact Q15.out _ _ _) | (with_reducible exact Q16.out _ _ _) | (with_reducible exact Q17.out _ _ _) | (with_reducible exact Q18.out _ _ _) | (with_reducible exact Q19.out _ _ _) | (with_reducible exact Q20.out _ _ _)))
  refine wpQuiet_nil ?_
  rintro _ ⟨⟨dq2, osq2⟩, rfl⟩
  clear c0 c1 c2 d0 d1 d2
  have HB2 := Lib.hid (HB'.out.trans ((below_regrown W1 dq2 osq2).mono HB'.out.size))
  generalize grow (redrawn W1 dq2) osq2 = W2 at *
  go_wp2_with fail
  refine (awake_any _).mono ?_
  rintro e w1 ⟨rfl, hb1⟩
  have HB3 := Lib.hid (HB2.out.trans (hb1.mono HB2.out.size))
  clear hb1
  go_wp2_with fail
  go_ret
  exact ⟨rfl, HB3.out⟩

set_option maxRecDepth 100000 in
set_option maxHeartbeats 4000000 in
theorem numbers_any (w : World) : Calls Try.prog 3 #[] w fun e w' => e = .returned (.bool true) ∧ Below w.heap.size w w' := by
  have N0 := Lib.hid (fun W => qb (P := Try.prog) (W := W) (fun w2 _ => (litV (vneg_any ⟨9223372036854775807, -9223372036854775808, 1⟩ (by decide)) (-9223372036854775807) 9223372036854775807 (-1) (by decide +kernel)) w2))
  have N1 := Lib.hid (fun W => qb (P := Try.prog) (W := W) (fun w2 _ => (litV (vadd_any ⟨9223372036854775807, -9223372036854775808, 1⟩ ⟨9223372036854775807, -9223372036854775808, 1⟩ (by decide) (by decide)) 9223372036854775807 (-9223372036854775808) 2 (by decide +kernel)) w2))
  have N2 := Lib.hid (fun W => qb (P := Try.prog) (W := W) (fun w2 _ => (litV (vsub_any ⟨9223372036854775807, -9223372036854775808, 1⟩ ⟨9223372036854775807, -9223372036854775808, 1⟩ (by decide) (by decide)) 0 0 0 (by decide +kernel)) w2))
  have N3 := Lib.hid (fun W => qb (P := Try.prog) (W := W) (fun w2 _ => (litI (vlen_any ⟨9223372036854775807, -9223372036854775808, 1⟩ (by decide)) 199032864766430 (by decide +kernel)) w2))
  have N4 := Lib.hid (fun W => qb (P := Try.prog) (W := W) (fun w2 _ => (litI (vrlen_any ⟨9223372036854775807, -9223372036854775808, 1⟩ (by decide)) 199032864766430 (by decide +kernel)) w2))
  have N5 := Lib.hid (fun W => qb (P := Try.prog) (W := W) (fun w2 _ => (litV (vunit_any ⟨1, 0, 0⟩ (by decide)) 0 0 0 (by decide +kernel)) w2))
  have N6 := Lib.hid (fun W => qb (P := Try.prog) (W := W) (fun w2 _ => (litV (of_any 1 (-2) 3 (by decide)) 4294967296 (-8589934592) 12884901888 (by decide +kernel)) w2))
  have N7 := Lib.hid (fun W => qb (P := Try.prog) (W := W) (fun w2 _ => (litV (vscale_any ⟨4294967296, -8589934592, 12884901888⟩ (-4294967296) (by decide) (by decide)) (-4294967296) 8589934592 (-12884901888) (by decide +kernel)) w2))
  have N8 := Lib.hid (fun W => qb (P := Try.prog) (W := W) (fun w2 _ => (litV (of_any (-1) 2 (-3) (by decide)) (-4294967296) 8589934592 (-12884901888) (by decide +kernel)) w2))
  have N9 := Lib.hid (fun W => qb (P := Try.prog) (W := W) (fun w2 _ => (litV (of_any 1 2 3 (by decide)) 4294967296 8589934592 12884901888 (by decide +kernel)) w2))
  have N10 := Lib.hid (fun W => qb (P := Try.prog) (W := W) (fun w2 _ => (litV (of_any 2 0 (-1) (by decide)) 8589934592 0 (-4294967296) (by decide +kernel)) w2))
  have N11 := Lib.hid (fun W => qb (P := Try.prog) (W := W) (fun w2 _ => (litV (vmul_any ⟨4294967296, 8589934592, 12884901888⟩ ⟨8589934592, 0, -4294967296⟩ (by decide) (by decide)) 8589934592 0 (-12884901888) (by decide +kernel)) w2))
  have N12 := Lib.hid (fun W => qb (P := Try.prog) (W := W) (fun w2 _ => (litV (of_any 2 0 (-3) (by decide)) 8589934592 0 (-12884901888) (by decide +kernel)) w2))
  have N13 := Lib.hid (fun W => qb (P := Try.prog) (W := W) (fun w2 _ => (litV (of_any 4 5 6 (by decide)) 17179869184 21474836480 25769803776 (by decide +kernel)) w2))
  have N14 := Lib.hid (fun W => qb (P := Try.prog) (W := W) (fun w2 _ => (litV (vcross_any ⟨4294967296, 8589934592, 12884901888⟩ ⟨17179869184, 21474836480, 25769803776⟩ (by decide) (by decide)) (-12884901888) 25769803776 (-12884901888) (by decide +kernel)) w2))
  have N15 := Lib.hid (fun W => qb (P := Try.prog) (W := W) (fun w2 _ => (litV (of_any (-3) 6 (-3) (by decide)) (-12884901888) 25769803776 (-12884901888) (by decide +kernel)) w2))
  have N16 := Lib.hid (fun W => qb (P := Try.prog) (W := W) (fun w2 _ => (litV (of_any 3 2 1 (by decide)) 12884901888 8589934592 4294967296 (by decide +kernel)) w2))
  have N17 := Lib.hid (fun W => qb (P := Try.prog) (W := W) (fun w2 _ => (litV (vsub_any ⟨4294967296, 8589934592, 12884901888⟩ ⟨12884901888, 8589934592, 4294967296⟩ (by decide) (by decide)) (-8589934592) 0 8589934592 (by decide +kernel)) w2))
  have N18 := Lib.hid (fun W => qb (P := Try.prog) (W := W) (fun w2 _ => (litV (of_any (-2) 0 2 (by decide)) (-8589934592) 0 8589934592 (by decide +kernel)) w2))
  have N99 := Lib.hid (fun W => qb (P := Try.prog) (W := W) (fun w2 _ => awake_any w2))
  obtain ⟨W, hW⟩ : ∃ W, W = w.alloc (box3 ⟨9223372036854775807, -9223372036854775808, 1⟩) := ⟨_, rfl⟩
  have h0 : W.heap[w.heap.size]? = some (box3 ⟨9223372036854775807, -9223372036854775808, 1⟩) := by rw [hW]; exact heap_alloc_new _ _
  have HBW := Lib.hid (show Below w.heap.size w W by rw [hW]; exact ext_alloc _ _)
  have HWW := Lib.hid hW
  obtain ⟨c0, c1, c2⟩ := cells3 h0
  clear h0 hW
  go_enter Try.func3, Try.ntmps3
  go_wp2_with fail
  rw [← HWW.out]
  refine wp_region_quiet_below (by kernel_rfl) (by kernel_rfl) ?_
  repeat (go_big_quiet_step (first | (with_reducible exact N0.out _ _ _) | (with_reducible exact N1.out _ _ _) | (with_reducible exact N2.out _ _ _) | (with_reducible exact N3.out _ _ _) | (with_reducible exact N4.out _ _ _) | (with_reducible exact N5.out _ _ _) | (with_reducible exact N6.out _ _ _) | (with_reducible exact N7.out _ _ _) | (with_reducible exact N8.out _ _ _) | (with_reducible exact N9.out _ _ _) | (with_reducible exact N10.out _ _ _) | (with_reducible exact N11.out _ _ _) | (with_reducible exact N12.out _ _ _) | (with_reducible exact N13.out _ _ _) | (with_reducible exact N14.out _ _ _) | (with_reducible exact N15.out _ _ _) | (with_reducible exact N16.out _ _ _) | (with_reducible exact N17.out _ _ _) | (with_reducible exact N18.out _ _ _) | (with_reducible exact N99.out _ _ _)))
  refine wpQuiet_nil ?_
  rintro _ ⟨⟨dq, osq⟩, rfl⟩
  have HF := Lib.hid (HBW.out.trans ((below_regrown W dq osq).mono HBW.out.size))
  clear c0 c1 c2
  go_wp2_with fail
  go_ret
  exact ⟨rfl, HF.out⟩

end Go.Proofs.Ytgiohbmllelhlaa.VecY
