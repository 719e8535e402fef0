/- The walks of package light: what goes part by part. -/
import Derived.Test.YtnfbeldiideonaaVecU
import Derived.Test.YtnfbeldiideonaaLightM
set_option linter.unusedVariables false
set_option linter.unusedSimpArgs false
namespace Go.Proofs.Ytnfbeldiideonaa.LightW
open Go.RowKit Go.Sort FixM Base Num FixW FixV FixU FixT FixS FixO FixN FixK FixP Qb Qt VecW VecV VecU LightM

set_option maxRecDepth 100000 in
set_option maxHeartbeats 2000000 in
theorem leach_any (k : Nat) (cap : Array Value) (F : Int → Int) (a : V3) (ha : a.ok) (w : World)
    (hen : ∀ args w, (callFunc k args).run Try.prog w = .ok (.enter k args) w)
    (hF : ∀ x w', In x → Below w.heap.size w w' → Calls Try.prog k (#[.int .i64 x] ++ cap) w' (fun e w'' => e = .returned (.int .i64 (F x)) ∧ Below w'.heap.size w' w'')) :
    Calls Try.prog 17 #[vecV a, .func (.func k) #[] cap] w fun e w' => e = .returned (.agg #[.int .i64 (F a.x), .int .i64 (F a.y), .int .i64 (F a.z)]) ∧ Below w.heap.size w w' := by
  obtain ⟨ax, ay, az⟩ := a
  obtain ⟨ha1, ha2, ha3⟩ := ha
  obtain ⟨W, hW⟩ : ∃ W, W = (w.alloc (box3 ⟨ax, ay, az⟩)).alloc (box3 ⟨0, 0, 0⟩) := ⟨_, rfl⟩
  have h0 : W.heap[w.heap.size]? = some (box3 ⟨ax, ay, az⟩) := by rw [hW]; exact alloc2_0 _ _ _
  have h2 : W.heap[w.heap.size + 1]? = some (box3 ⟨0, 0, 0⟩) := by rw [hW]; exact alloc2_1 _ _ _
  have hBW : Below w.heap.size w W := by rw [hW]; exact alloc2_below _ _ _
  have f0 := qb (P := Try.prog) (W := W) (f := k) (fun w2 hb => hF ax w2 ha1 (hBW.trans (hb.mono hBW.size)))
  have f1 := qb (P := Try.prog) (W := W) (f := k) (fun w2 hb => hF ay w2 ha2 (hBW.trans (hb.mono hBW.size)))
  have f2 := qb (P := Try.prog) (W := W) (f := k) (fun w2 hb => hF az w2 ha3 (hBW.trans (hb.mono hBW.size)))
  obtain ⟨c0, c1, c2⟩ := cells3 h0
  have F0 := Lib.hid f0
  have F1 := Lib.hid f1
  have F2 := Lib.hid f2
  have H2 := Lib.hid h2
  have BW := Lib.hid hBW
  have HWW := Lib.hid hW
  clear hF f0 f1 f2 h0 h2 hBW hW ha1 ha2 ha3
  go_enter Try.func17, Try.ntmps17
  go_wp2_with fail
  rw [← HWW.out]
  refine wp_region_below_tail 13 (by kernel_rfl) (by kernel_rfl) ?_
  simp only [List.take_succ_cons, List.take_zero, List.drop_succ_cons, List.drop_zero]
  repeat (go_big_quiet_step (first | (with_reducible exact F0.out _ _) | (with_reducible exact F1.out _ _) | (with_reducible exact F2.out _ _)))
  refine wpQuiet_nil ?_
  rintro _ ⟨⟨dq, osq⟩, rfl⟩
  refine store_vec rfl (.tmp 4) (.tmp 17) rfl rfl (w.heap.size + 1) (F ax) (F ay) (F az) rfl rfl _ _ _ (heap_regrown H2.out dq osq) ?_
  have hb2 : Below w.heap.size w (grow (redrawn W dq) osq) := BW.out.trans ((below_regrown W dq osq).mono BW.out.size)
  have h3 := setRow_heap (grow (redrawn W dq) osq) (w.heap.size + 1) _ #[.int .i64 (F ax), .int .i64 (F ay), .int .i64 (F az)] _ _ (heap_regrown H2.out dq osq)
  have hb3 := below_setRow hb2 (show w.heap.size ≤ w.heap.size + 1 by omega) #[.int .i64 (F ax), .int .i64 (F ay), .int .i64 (F az)]
  have H3 := Lib.hid h3
  have HB3 := Lib.hid hb3
  clear h3 hb3 hb2 c0 c1 c2
  generalize (grow (redrawn W dq) osq).setRow (w.heap.size + 1) #[.int .i64 (F ax), .int .i64 (F ay), .int .i64 (F az)] = w3 at *
  go_wp2_with fail
  refine bodyPost_ret (results_cell_row rfl _ _ (w.heap.size + 1) 23 _ _ _ rfl H3.out Try.underlying23 rfl vec_size) rfl ?_
  exact ⟨rfl, HB3.out⟩

set_option maxRecDepth 100000 in
set_option maxHeartbeats 1000000 in
theorem clamp1_any (x : Int) (hx : In x) (w : World) : Calls Try.prog 24 #[.int .i64 x] w (VTo (.int .i64 (clampL x)) w) := by
  have hm := clampL_minmax x
  have hr := Below.refl w.heap.size w
  have HM := Lib.hid hm
  clear hm
  go_enter Try.func24, Try.ntmps24
  go_wp2_with fail
  go_ret
  refine ⟨?_, hr⟩
  show Ending.returned (.int .i64 (min (max x 0) 4294967296)) = _
  rw [HM.out]

set_option maxRecDepth 100000 in
set_option maxHeartbeats 1000000 in
theorem pix1_any (x s : Int) (hx : In x) (hs : In s) (g : Nat) (w : World) (hc : w.cell? ⟨g, 0, none⟩ = some (.int .i64 s)) : Calls Try.prog 18 #[.int .i64 x, .pointer (some ⟨g, 0, none⟩)] w (VTo (.int .i64 (divF x s)) w) := by
  have C1 := Lib.hid (fun w => drawn_to (div_any x s hx.1 hx.2 hs.1 hs.2 w))
  clear hx hs
  go_enter Try.func18, Try.ntmps18
  go_wp2_with fail
  refine (C1.out _).mono ?_
  rintro e w1 ⟨rfl, hb⟩
  have HB := Lib.hid hb
  clear hb
  go_wp2_with fail
  go_ret
  exact ⟨rfl, HB.out⟩

set_option maxRecDepth 100000 in
set_option maxHeartbeats 1000000 in
theorem pix2_any (x : Int) (hx : In x) (w : World) : Calls Try.prog 20 #[.int .i64 x] w (VTo (.int .i64 (byteL x)) w) := by
  have c1 := fun w => of_any 255 (by decide) (by decide) w
  rw [show ofF 255 = 1095216660480 by decide] at c1
  have C1 := Lib.hid c1
  have C2 := Lib.hid (fun w => mul_any x 1095216660480 hx.1 hx.2 (by decide) (by decide) w)
  have hm := in_mul x 1095216660480
  have C3 := Lib.hid (fun w => add_any (mulF x 1095216660480) 2147483648 hm.1 hm.2 (by decide) (by decide) w)
  have ha := in_add (mulF x 1095216660480) 2147483648
  have C4 := Lib.hid (fun w => floor_any (addF (mulF x 1095216660480) 2147483648) ha.1 ha.2 w)
  have hr := Below.refl w.heap.size w
  clear hx c1 hm ha
  go_enter Try.func20, Try.ntmps20
  go_wp2_with fail
  refine (C1.out _).mono ?_
  rintro e w1 ⟨rfl, rfl⟩
  go_wp2_with fail
  refine (C2.out _).mono ?_
  rintro e w1 ⟨rfl, rfl⟩
  go_wp2_with fail
  refine (C3.out _).mono ?_
  rintro e w1 ⟨rfl, rfl⟩
  go_wp2_with fail
  refine (C4.out _).mono ?_
  rintro e w1 ⟨rfl, rfl⟩
  go_wp2_with fail
  go_ret
  exact ⟨rfl, hr⟩

set_option maxRecDepth 100000 in
set_option maxHeartbeats 1000000 in
theorem lclamp_any (a : V3) (ha : a.ok) (w : World) : Calls Try.prog 6 #[vecV a] w (VTo (vecV (map1 clampL a)) w) := by
  obtain ⟨ax, ay, az⟩ := a
  have h2 := alloc2_1 w (box3 ⟨ax, ay, az⟩) (box3 ⟨0, 0, 0⟩)
  have hBW := alloc2_below w (box3 ⟨ax, ay, az⟩) (box3 ⟨0, 0, 0⟩)
  have c1 := fun w => leach_any 24 #[] clampL _ ha w (enters Try.func24 (by kernel_rfl) rfl) (fun x w' hx _ => by simp only [Array.append_empty]; exact clamp1_any x hx w')
  have H2 := Lib.hid h2
  have BW := Lib.hid hBW
  have C1 := Lib.hid c1
  clear h2 hBW c1 ha
  go_enter Try.func6, Try.ntmps6
  go_wp2_with fail
  refine (C1.out _).mono ?_
  rintro e w1 ⟨rfl, hb1⟩
  have HR1 := Lib.hid ((hb1.block _ (by simp)).trans H2.out)
  have HB1 := Lib.hid (BW.out.trans (hb1.mono BW.out.size))
  clear hb1
  have H3 := Lib.hid (setRow_heap w1 (w.heap.size + 1) _ #[.int .i64 (clampL ax), .int .i64 (clampL ay), .int .i64 (clampL az)] _ _ HR1.out)
  have HB3 := Lib.hid (below_setRow HB1.out (show w.heap.size ≤ w.heap.size + 1 by omega) #[.int .i64 (clampL ax), .int .i64 (clampL ay), .int .i64 (clampL az)])
  go_wp2_with (with_reducible refine store_vec rfl (.tmp 2) (.tmp 4) rfl rfl (w.heap.size + 1) (clampL ax) (clampL ay) (clampL az) rfl rfl _ _ _ HR1.out ?_)
  generalize w1.setRow (w.heap.size + 1) #[.int .i64 (clampL ax), .int .i64 (clampL ay), .int .i64 (clampL az)] = w3 at *
  refine bodyPost_ret (results_cell_row rfl _ _ (w.heap.size + 1) 23 _ _ _ rfl H3.out Try.underlying23 rfl vec_size) rfl ?_
  exact ⟨rfl, HB3.out⟩
end Go.Proofs.Ytnfbeldiideonaa.LightW
