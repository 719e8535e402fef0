/- The law VecTurns. -/
import Derived.Test.YtgiohbmllelhlaaVecY
import Derived.Test.YtgiohbmllelhlaaQa
set_option linter.unusedVariables false
set_option linter.unusedSimpArgs false
namespace Go.Proofs.Ytgiohbmllelhlaa.VecZ
open Go.RowKit Go.Sort FixM Base Num FixW FixV FixU FixT FixS FixO FixN FixK FixP Qb Qt VecW VecV VecU VecR VecY Qa

def lowF (a : V3) : V3 := ⟨a.x.tmod 1099511627776, a.y.tmod 1099511627776, a.z.tmod 1099511627776⟩
def Sm (x : Int) : Prop := -1099511627776 < x ∧ x < 1099511627776
theorem tmod_small (x : Int) : Sm (x.tmod 1099511627776) :=
  ⟨Int.lt_tmod_of_pos x (by decide), Int.tmod_lt_of_pos x (by decide)⟩
theorem Sm.in_ {x : Int} (h : Sm x) : In x := by unfold Sm at h; unfold In; omega
theorem ok_low (a : V3) : (lowF a).ok := ⟨(tmod_small _).in_, (tmod_small _).in_, (tmod_small _).in_⟩
theorem mul_small {x y : Int} (hx : Sm x) (hy : Sm y) : mulF x y = x * y / 4294967296 ∧ -281474976710657 ≤ mulF x y ∧ mulF x y ≤ 281474976710656 := by
  unfold Sm at hx hy
  have h1 : x * y ≤ 1099511627776 * 1099511627776 ∧ -(1099511627776 * 1099511627776) ≤ x * y := by
    have hab : (x * y).natAbs ≤ 1099511627776 * 1099511627776 := by
      rw [Int.natAbs_mul]; exact Nat.mul_le_mul (by omega) (by omega)
    omega
  have e : mulF x y = x * y / 4294967296 := by unfold mulF; rw [clamp_id (by omega) (by omega)]
  rw [e]
  refine ⟨rfl, ?_, ?_⟩ <;> omega
theorem turn1 {a b c d : Int} (ha : Sm a) (hb : Sm b) (hc : Sm c) (hd : Sm d) : subF (mulF a b) (mulF c d) = negF (subF (mulF d c) (mulF b a)) := by
  obtain ⟨_, h1, h2⟩ := mul_small ha hb
  obtain ⟨_, h3, h4⟩ := mul_small hc hd
  rw [mulF_comm d c, mulF_comm b a]
  generalize mulF a b = p at *
  generalize mulF c d = q at *
  have e1 : subF p q = p - q := clamp_id (by omega) (by omega)
  have e2 : subF q p = q - p := clamp_id (by omega) (by omega)
  rw [e1, e2]
  have e3 : negF (q - p) = -(q - p) := clamp_id (by omega) (by omega)
  rw [e3]; omega
theorem sub_self (x : Int) : subF x x = 0 := by unfold subF; rw [Int.sub_self]; rfl
theorem cross_turn (a b : V3) : crossF (lowF a) (lowF b) = map1 negF (crossF (lowF b) (lowF a)) := by
  unfold crossF map1
  simp only [V3.mk.injEq]
  exact ⟨turn1 (tmod_small _) (tmod_small _) (tmod_small _) (tmod_small _), turn1 (tmod_small _) (tmod_small _) (tmod_small _) (tmod_small _), turn1 (tmod_small _) (tmod_small _) (tmod_small _) (tmod_small _)⟩
theorem cross_self (a : V3) : crossF a a = ⟨0, 0, 0⟩ := by
  unfold crossF
  rw [mulF_comm a.z a.y, mulF_comm a.x a.z, mulF_comm a.y a.x, sub_self, sub_self, sub_self]
theorem add_sub {x y : Int} (hx : Sm x) (hy : Sm y) : addF (subF x y) y = x := by
  unfold Sm at hx hy
  have e1 : subF x y = x - y := clamp_id (by omega) (by omega)
  rw [e1]
  have e2 : addF (x - y) y = x - y + y := clamp_id (by omega) (by omega)
  rw [e2]; omega
theorem add_sub_low (a b : V3) : map2 addF (map2 subF (lowF a) (lowF b)) (lowF b) = lowF a := by
  simp only [map2, lowF]
  rw [add_sub (tmod_small _) (tmod_small _), add_sub (tmod_small _) (tmod_small _), add_sub (tmod_small _) (tmod_small _)]
theorem scale_one (a : V3) (h : a.ok) : map1 (fun x => mulF x 4294967296) a = a := by
  obtain ⟨x, y, z⟩ := a
  obtain ⟨h1, h2, h3⟩ := h
  simp only [map1]
  rw [mulF_one h1.1 h1.2, mulF_one h2.1 h2.2, mulF_one h3.1 h3.2]
theorem scale_zero (a : V3) : map1 (fun x => mulF x 0) a = ⟨0, 0, 0⟩ := by simp only [map1, mulF_zero]
theorem map2_comm {F : Int → Int → Int} (hF : ∀ x y, F x y = F y x) (a b : V3) : map2 F a b = map2 F b a := by unfold map2; rw [hF a.x, hF a.y, hF a.z]
theorem dot_comm (a b : V3) : dotF a b = dotF b a := by unfold dotF; rw [mulF_comm a.x, mulF_comm a.y, mulF_comm a.z]
theorem sub_same (a : V3) : map2 subF a a = ⟨0, 0, 0⟩ := by unfold map2; rw [sub_self, sub_self, sub_self]
theorem alloc_vec (w : World) : (Instr.alloc 23 true (.tuple #[])).run Try.prog w = .ok (.pointer (some ⟨w.heap.size, 0, none⟩)) (w.alloc (box3 ⟨0, 0, 0⟩)) := by kernel_rfl
set_option maxHeartbeats 1000000 in
theorem low_any (a : V3) (ha : a.ok) (w : World) : Calls Try.prog 28 #[vecV a] w (VTo (vecV (lowF a)) w) := by
  obtain ⟨ax, ay, az⟩ := a
  clear ha
  go_enter Try.func28, Try.ntmps28
  go_wp2_with fail
  refine bodyPost_ret (results_cell_row rfl _ _ (w.heap.size + 1) 23 _ _ _ rfl (alloc2_1 _ _ _) Try.underlying23 rfl vec_size) rfl ?_
  exact ⟨rfl, alloc2_below _ _ _⟩
set_option maxRecDepth 100000 in
set_option maxHeartbeats 4000000 in
theorem turns_any (a b : V3) (ha : a.ok) (hb : b.ok) (w : World) : Calls Try.prog 5 #[vecV a, vecV b] w fun e w' => e = .returned (.bool true) ∧ Below w.heap.size w w' := by
  have hp := ok_low a
  have hq := ok_low b
  have Q1 := Lib.hid (fun W => qb (P := Try.prog) (W := W) (fun w2 _ => vadd_any a b ha hb w2))
  have Q2 := Lib.hid (fun W => qb (P := Try.prog) (W := W) (fun w2 _ => (by rw [map2_comm addF_comm]; exact vadd_any b a hb ha w2 : Calls _ _ _ _ (VTo (vecV (map2 addF a b)) w2))))
  have Q3 := Lib.hid (fun W => qb (P := Try.prog) (W := W) (fun w2 _ => vmul_any a b ha hb w2))
  have Q4 := Lib.hid (fun W => qb (P := Try.prog) (W := W) (fun w2 _ => (by rw [map2_comm mulF_comm]; exact vmul_any b a hb ha w2 : Calls _ _ _ _ (VTo (vecV (map2 mulF a b)) w2))))
  have Q5 := Lib.hid (fun W => qb (P := Try.prog) (W := W) (fun w2 _ => vdot_any a b ha hb w2))
  have Q6 := Lib.hid (fun W => qb (P := Try.prog) (W := W) (fun w2 _ => (by rw [dot_comm]; exact vdot_any b a hb ha w2 : Calls _ _ _ _ (VTo (.int .i64 (dotF a b)) w2))))
  have Q7 := Lib.hid (fun W => qb (P := Try.prog) (W := W) (fun w2 _ => vlen_any a ha w2))
  have Q8 := Lib.hid (fun W => qb (P := Try.prog) (W := W) (fun w2 _ => (by have := vsub_any a a ha ha w2; rw [sub_same] at this; exact this : Calls Try.prog 8 _ _ (VTo (vecV ⟨0, 0, 0⟩) w2))))
  have hlen : decide (lenF a < 0) = false := decide_eq_false (by have := sqrtF_in (dotF a a) (in_dot a a).2; unfold lenF; omega)
  have R1 := Lib.hid (fun W => qb (P := Try.prog) (W := W) (fun w2 _ => low_any a ha w2))
  have R2 := Lib.hid (fun W => qb (P := Try.prog) (W := W) (fun w2 _ => low_any b hb w2))
  obtain ⟨p, hpp⟩ : ∃ p, p = lowF a := ⟨_, rfl⟩
  obtain ⟨q, hqq⟩ : ∃ q, q = lowF b := ⟨_, rfl⟩
  have ht : crossF p q = map1 negF (crossF q p) := by rw [hpp, hqq]; exact cross_turn a b
  have hpq : map2 addF (map2 subF p q) q = p := by rw [hpp, hqq]; exact add_sub_low a b
  rw [← hpp] at R1 hp
  rw [← hqq] at R2 hq
  have S1 := Lib.hid (fun W => qb (P := Try.prog) (W := W) (fun w2 _ => vcross_any p q hp hq w2))
  have S2 := Lib.hid (fun W => qb (P := Try.prog) (W := W) (fun w2 _ => vcross_any q p hq hp w2))
  have S3 := Lib.hid (fun W => qb (P := Try.prog) (W := W) (fun w2 _ => (by rw [ht]; exact vneg_any (crossF q p) (ok_cross q p) w2 : Calls Try.prog 6 #[vecV (crossF q p)] w2 (VTo (vecV (crossF p q)) w2))))
  have S4 := Lib.hid (fun w2 => (by have := vcross_any p p hp hp w2; rw [cross_self] at this; exact this : Calls Try.prog 15 #[vecV p, vecV p] w2 (VTo (vecV ⟨0, 0, 0⟩) w2)))
  have S5 := Lib.hid (fun W => qb (P := Try.prog) (W := W) (fun w2 _ => vsub_any p q hp hq w2))
  have S6 := Lib.hid (fun W => qb (P := Try.prog) (W := W) (fun w2 _ => (by have := vadd_any (map2 subF p q) q (ok_map2 in_sub p q) hq w2; rw [hpq] at this; exact this : Calls Try.prog 7 #[vecV (map2 subF p q), vecV q] w2 (VTo (vecV p) w2))))
  have S7 := Lib.hid (fun W => qb (P := Try.prog) (W := W) (fun w2 _ => (by have := vscale_any p 4294967296 hp (by decide) w2; rw [scale_one p hp] at this; exact this : Calls Try.prog 12 #[vecV p, .int .i64 4294967296] w2 (VTo (vecV p) w2))))
  have S8 := Lib.hid (fun W => qb (P := Try.prog) (W := W) (fun w2 _ => (by have := vscale_any p 0 hp (by decide) w2; rw [scale_zero] at this; exact this : Calls Try.prog 12 #[vecV p, .int .i64 0] w2 (VTo (vecV ⟨0, 0, 0⟩) w2))))
  have S9 := Lib.hid (fun W => qb (P := Try.prog) (W := W) (fun w2 _ => awake_any w2))
  clear hpp hqq ht hpq hp hq
  obtain ⟨W, hW⟩ : ∃ W, W = (w.alloc (box3 a)).alloc (box3 b) := ⟨_, rfl⟩
  have h0 : W.heap[w.heap.size]? = some (box3 a) := by rw [hW]; exact alloc2_0 _ _ _
  have h1 : W.heap[w.heap.size + 1]? = some (box3 b) := by rw [hW]; exact alloc2_1 _ _ _
  have hBW : Below w.heap.size w W := by rw [hW]; exact alloc2_below _ _ _
  obtain ⟨c0, c1, c2⟩ := cells3 h0
  obtain ⟨d0, d1, d2⟩ := cells3 h1
  have H0 := Lib.hid h0
  have H1 := Lib.hid h1
  have HBW := Lib.hid hBW
  have HWW := Lib.hid hW
  clear h0 h1 hBW hW ha hb
  go_enter Try.func5, Try.ntmps5
  go_wp2_with fail
  rw [← HWW.out]
  refine wp_region_quiet_below (by kernel_rfl) (by kernel_rfl) ?_
  repeat (go_big_quiet_step (first | (with_reducible exact Q1.out _ _ _) | (with_reducible exact Q2.out _ _ _) | (with_reducible exact Q3.out _ _ _) | (with_reducible exact Q4.out _ _ _) | (with_reducible exact Q5.out _ _ _) | (with_reducible exact Q6.out _ _ _) | (with_reducible exact Q7.out _ _ _) | (with_reducible exact Q8.out _ _ _)))
  refine wpQuiet_nil ?_
  rintro _ ⟨⟨dq, osq⟩, rfl⟩
  clear c0 c1 c2 d0 d1 d2
  have H0' := Lib.hid (heap_regrown H0.out dq osq)
  have H1' := Lib.hid (heap_regrown H1.out dq osq)
  have HB' := Lib.hid (HBW.out.trans ((below_regrown W dq osq).mono HBW.out.size))
  generalize grow (redrawn W dq) osq = W1 at *
  obtain ⟨c0, c1, c2⟩ := cells3 H0'.out
  obtain ⟨d0, d1, d2⟩ := cells3 H1'.out
  go_wp2_with fail
  clear c0 c1 c2 d0 d1 d2
  refine wp_region_allocs 6 [0, 1, 2, 3] [(4, 5, box3 ⟨0, 0, 0⟩), (5, 6, box3 ⟨0, 0, 0⟩)] (by kernel_rfl) (by kernel_rfl) (by
    intro x hx
    simp only [List.mem_cons, List.not_mem_nil, or_false] at hx
    rcases hx with rfl | rfl
    · exact ⟨by decide, _, rfl, ⟨⟨_, rfl, alloc_vec⟩, rfl, rfl⟩⟩
    · exact ⟨by decide, _, rfl, ⟨⟨_, rfl, alloc_vec⟩, rfl, rfl⟩⟩) (by decide) (by decide) ?_
  refine Walk.step (A := ?A1) (o := ?o1) ?e1 ?w1 46 ?d1 (by simp) ?h1 ?n1
  case e1 => simp only [List.getElem?_toArray, List.getElem?_cons_succ, List.getElem?_cons_zero]; exact rfl
  case w1 => exact rfl
  case d1 => exact rfl
  case h1 =>
    intro W9 hW9
    obtain ⟨e0, e1, e2⟩ := cells3 ((hW9.block _ (lt_of_heap H0'.out)).trans H0'.out)
    go_big_quiet_op
    exact rfl
  refine Walk.step (A := ?A2) (o := ?o2) ?e2 ?w2 47 ?d2 (by simp) ?h2 ?n2
  case e2 => simp only [List.getElem?_toArray, List.getElem?_cons_succ, List.getElem?_cons_zero]; exact rfl
  case w2 => exact rfl
  case d2 => exact rfl
  case h2 =>
    intro W9 hW9
    go_big_quiet_op
    apply Exists.intro
    refine ⟨fun _ => ?_, ?_⟩
    · with_reducible exact R1.out _ _ _
    · exact rfl
  refine Walk.step (A := ?A3) (o := ?o3) ?e3 ?w3 48 ?d3 (by simp) ?h3 ?n3
  case e3 => simp only [List.getElem?_toArray, List.getElem?_cons_succ, List.getElem?_cons_zero]; exact rfl
  case w3 => exact rfl
  case d3 => exact rfl
  case h3 =>
    intro W9 hW9
    obtain ⟨e0, e1, e2⟩ := cells3 ((hW9.block _ (lt_of_heap H1'.out)).trans H1'.out)
    go_big_quiet_op
    exact rfl
  refine Walk.step (A := ?A4) (o := ?o4) ?e4 ?w4 49 ?d4 (by simp) ?h4 ?n4
  case e4 => simp only [List.getElem?_toArray, List.getElem?_cons_succ, List.getElem?_cons_zero]; exact rfl
  case w4 => exact rfl
  case d4 => exact rfl
  case h4 =>
    intro W9 hW9
    go_big_quiet_op
    apply Exists.intro
    refine ⟨fun _ => ?_, ?_⟩
    · with_reducible exact R2.out _ _ _
    · exact rfl
  simp only [Walk, All]
  intro g5 hg5 hf5 g6 hg6 hf6 w2 hD2
  have hne : g5 ≠ g6 := hf6 (g5, box3 ⟨0, 0, 0⟩) (by simp)
  have k5 : w2.heap[g5]? = some (box3 ⟨0, 0, 0⟩) := hD2.2 (g5, box3 ⟨0, 0, 0⟩) (by simp)
  have k6 : w2.heap[g6]? = some (box3 ⟨0, 0, 0⟩) := hD2.2 (g6, box3 ⟨0, 0, 0⟩) (by simp)
  have hb2 : Below w.heap.size w w2 := HB'.out.trans (hD2.1.mono HB'.out.size)
  have hs5 : w.heap.size ≤ g5 := Nat.le_trans HB'.out.size hg5
  have hs6 : w.heap.size ≤ g6 := Nat.le_trans HB'.out.size hg6
  clear hf5 hf6 hD2 hg5 hg6
  simp only [List.drop_succ_cons, List.drop_zero, Act.put, List.setIfInBounds_toArray, List.set_cons_succ, List.set_cons_zero, ptr]
  refine store_vec rfl (.tmp 5) (.tmp 47) rfl rfl g5 p.x p.y p.z rfl rfl _ _ _ k5 ?_
  have k6' : (w2.setRow g5 #[.int .i64 p.x, .int .i64 p.y, .int .i64 p.z]).heap[g6]? = some (box3 ⟨0, 0, 0⟩) := by rw [setRow_other _ _ _ _ (Ne.symm hne)]; exact k6
  refine store_vec rfl (.tmp 6) (.tmp 49) rfl rfl g6 q.x q.y q.z rfl rfl _ _ _ k6' ?_
  have P5 := Lib.hid ((setRow_other (w2.setRow g5 #[.int .i64 p.x, .int .i64 p.y, .int .i64 p.z]) g6 g5 #[.int .i64 q.x, .int .i64 q.y, .int .i64 q.z] hne).trans (setRow_heap _ _ _ _ _ _ k5))
  have P6 := Lib.hid (setRow_heap _ g6 _ #[.int .i64 q.x, .int .i64 q.y, .int .i64 q.z] _ _ k6')
  have HB3 := Lib.hid (below_setRow (below_setRow hb2 hs5 #[.int .i64 p.x, .int .i64 p.y, .int .i64 p.z]) hs6 #[.int .i64 q.x, .int .i64 q.y, .int .i64 q.z])
  clear k5 k6 k6' hb2 hs5 hs6 hne
  generalize (w2.setRow g5 _).setRow g6 _ = W3 at *
  go_wp2_with fail
  refine wp_region_allocs 9 [0, 1, 2, 3, 4, 5, 6] [(7, 7, box3 ⟨0, 0, 0⟩), (8, 8, box3 ⟨0, 0, 0⟩)] (by kernel_rfl) (by kernel_rfl) (by
    intro x hx
    simp only [List.mem_cons, List.not_mem_nil, or_false] at hx
    rcases hx with rfl | rfl
    · exact ⟨by decide, _, rfl, ⟨⟨_, rfl, alloc_vec⟩, rfl, rfl⟩⟩
    · exact ⟨by decide, _, rfl, ⟨⟨_, rfl, alloc_vec⟩, rfl, rfl⟩⟩) (by decide) (by decide) ?_
  refine Walk.step (A := ?A5) (o := ?o5) ?e5 ?w5 50 ?d5 (by simp) ?h5 ?n5
  case e5 => simp only [List.getElem?_toArray, List.getElem?_cons_succ, List.getElem?_cons_zero]; exact rfl
  case w5 => exact rfl
  case d5 => exact rfl
  case h5 =>
    intro W9 hW9
    obtain ⟨e0, e1, e2⟩ := cells3 ((hW9.block _ (lt_of_heap P5.out)).trans P5.out)
    go_big_quiet_op
    exact rfl
  refine Walk.step (A := ?A6) (o := ?o6) ?e6 ?w6 51 ?d6 (by simp) ?h6 ?n6
  case e6 => simp only [List.getElem?_toArray, List.getElem?_cons_succ, List.getElem?_cons_zero]; exact rfl
  case w6 => exact rfl
  case d6 => exact rfl
  case h6 =>
    intro W9 hW9
    obtain ⟨e0, e1, e2⟩ := cells3 ((hW9.block _ (lt_of_heap P6.out)).trans P6.out)
    go_big_quiet_op
    exact rfl
  refine Walk.step (A := ?A7) (o := ?o7) ?e7 ?w7 52 ?d7 (by simp) ?h7 ?n7
  case e7 => simp only [List.getElem?_toArray, List.getElem?_cons_succ, List.getElem?_cons_zero]; exact rfl
  case w7 => exact rfl
  case d7 => exact rfl
  case h7 =>
    intro W9 hW9
    go_big_quiet_op
    apply Exists.intro
    refine ⟨fun _ => ?_, ?_⟩
    · with_reducible exact S1.out _ _ _
    · exact rfl
  refine Walk.step (A := ?A8) (o := ?o8) ?e8 ?w8 53 ?d8 (by simp) ?h8 ?n8
  case e8 => simp only [List.getElem?_toArray, List.getElem?_cons_succ, List.getElem?_cons_zero]; exact rfl
  case w8 => exact rfl
  case d8 => exact rfl
  case h8 =>
    intro W9 hW9
    obtain ⟨e0, e1, e2⟩ := cells3 ((hW9.block _ (lt_of_heap P6.out)).trans P6.out)
    go_big_quiet_op
    exact rfl
  refine Walk.step (A := ?A9) (o := ?o9) ?e9 ?w9 54 ?d9 (by simp) ?h9 ?n9
  case e9 => simp only [List.getElem?_toArray, List.getElem?_cons_succ, List.getElem?_cons_zero]; exact rfl
  case w9 => exact rfl
  case d9 => exact rfl
  case h9 =>
    intro W9 hW9
    obtain ⟨e0, e1, e2⟩ := cells3 ((hW9.block _ (lt_of_heap P5.out)).trans P5.out)
    go_big_quiet_op
    exact rfl
  refine Walk.step (A := ?A10) (o := ?o10) ?e10 ?w10 55 ?d10 (by simp) ?h10 ?n10
  case e10 => simp only [List.getElem?_toArray, List.getElem?_cons_succ, List.getElem?_cons_zero]; exact rfl
  case w10 => exact rfl
  case d10 => exact rfl
  case h10 =>
    intro W9 hW9
    go_big_quiet_op
    apply Exists.intro
    refine ⟨fun _ => ?_, ?_⟩
    · with_reducible exact S2.out _ _ _
    · exact rfl
  refine Walk.step (A := ?A11) (o := ?o11) ?e11 ?w11 56 ?d11 (by simp) ?h11 ?n11
  case e11 => simp only [List.getElem?_toArray, List.getElem?_cons_succ, List.getElem?_cons_zero]; exact rfl
  case w11 => exact rfl
  case d11 => exact rfl
  case h11 =>
    intro W9 hW9
    go_big_quiet_op
    apply Exists.intro
    refine ⟨fun _ => ?_, ?_⟩
    · with_reducible exact S3.out _ _ _
    · exact rfl
  simp only [Walk, All]
  intro g7 hg7 hf7 g8 hg8 hf8 w4 hD4
  have hne : g7 ≠ g8 := hf8 (g7, box3 ⟨0, 0, 0⟩) (by simp)
  have k7 : w4.heap[g7]? = some (box3 ⟨0, 0, 0⟩) := hD4.2 (g7, box3 ⟨0, 0, 0⟩) (by simp)
  have k8 : w4.heap[g8]? = some (box3 ⟨0, 0, 0⟩) := hD4.2 (g8, box3 ⟨0, 0, 0⟩) (by simp)
  have hb4 : Below w.heap.size w w4 := HB3.out.trans (hD4.1.mono HB3.out.size)
  have hs7 : w.heap.size ≤ g7 := Nat.le_trans HB3.out.size hg7
  have hs8 : w.heap.size ≤ g8 := Nat.le_trans HB3.out.size hg8
  have l5 := lt_of_heap P5.out
  have l6 := lt_of_heap P6.out
  have n57 : g5 ≠ g7 := by omega
  have n58 : g5 ≠ g8 := by omega
  have n67 : g6 ≠ g7 := by omega
  have n68 : g6 ≠ g8 := by omega
  have m5 : w4.heap[g5]? = some (box3 p) := (hD4.1.block _ l5).trans P5.out
  have m6 : w4.heap[g6]? = some (box3 q) := (hD4.1.block _ l6).trans P6.out
  obtain ⟨c, hc⟩ : ∃ c, c = crossF p q := ⟨_, rfl⟩
  clear hf7 hf8 hD4 hg7 hg8
  simp only [List.drop_succ_cons, List.drop_zero, Act.put, List.setIfInBounds_toArray, List.set_cons_succ, List.set_cons_zero, ptr, ← hc]
  refine store_vec rfl (.tmp 7) (.tmp 52) rfl rfl g7 c.x c.y c.z rfl rfl _ _ _ k7 ?_
  have k8' : (w4.setRow g7 #[.int .i64 c.x, .int .i64 c.y, .int .i64 c.z]).heap[g8]? = some (box3 ⟨0, 0, 0⟩) := by rw [setRow_other _ _ _ _ (Ne.symm hne)]; exact k8
  refine store_vec rfl (.tmp 8) (.tmp 56) rfl rfl g8 c.x c.y c.z rfl rfl _ _ _ k8' ?_
  have o5 : ((w4.setRow g7 #[.int .i64 c.x, .int .i64 c.y, .int .i64 c.z]).setRow g8 #[.int .i64 c.x, .int .i64 c.y, .int .i64 c.z]).heap[g5]? = some (box3 p) := by rw [setRow_other _ _ _ _ n58, setRow_other _ _ _ _ n57]; exact m5
  have o6 : ((w4.setRow g7 #[.int .i64 c.x, .int .i64 c.y, .int .i64 c.z]).setRow g8 #[.int .i64 c.x, .int .i64 c.y, .int .i64 c.z]).heap[g6]? = some (box3 q) := by rw [setRow_other _ _ _ _ n68, setRow_other _ _ _ _ n67]; exact m6
  have o7 : ((w4.setRow g7 #[.int .i64 c.x, .int .i64 c.y, .int .i64 c.z]).setRow g8 #[.int .i64 c.x, .int .i64 c.y, .int .i64 c.z]).heap[g7]? = some (box3 c) := (setRow_other _ _ _ _ hne).trans (setRow_heap _ _ _ _ _ _ k7)
  have o8 : ((w4.setRow g7 #[.int .i64 c.x, .int .i64 c.y, .int .i64 c.z]).setRow g8 #[.int .i64 c.x, .int .i64 c.y, .int .i64 c.z]).heap[g8]? = some (box3 c) := setRow_heap _ g8 _ _ _ _ k8'
  have HB5 := Lib.hid (below_setRow (below_setRow hb4 hs7 #[.int .i64 c.x, .int .i64 c.y, .int .i64 c.z]) hs8 #[.int .i64 c.x, .int .i64 c.y, .int .i64 c.z])
  clear k7 k8 k8' m5 m6 hb4 hs7 hs8 hne n57 n58 n67 n68 l5 l6
  generalize (w4.setRow g7 _).setRow g8 _ = W5 at *
  have c5 := cell_of_row W5 g5 0 _ _ _ o5
  have c5' := cell_of_row W5 g5 1 _ _ _ o5
  have c5'' := cell_of_row W5 g5 2 _ _ _ o5
  have c7 := cell_of_row W5 g7 0 _ _ _ o7
  have c7' := cell_of_row W5 g7 1 _ _ _ o7
  have c7'' := cell_of_row W5 g7 2 _ _ _ o7
  have c8 := cell_of_row W5 g8 0 _ _ _ o8
  have c8' := cell_of_row W5 g8 1 _ _ _ o8
  have c8'' := cell_of_row W5 g8 2 _ _ _ o8
  simp only [List.getElem?_toArray, List.getElem?_cons_succ, List.getElem?_cons_zero] at c5 c5' c5'' c7 c7' c7'' c8 c8' c8''
  have O5 := Lib.hid o5
  have O6 := Lib.hid o6
  clear o5 o6 o7 o8 hc
  go_wp2_with fail
  refine (S4.out _).mono ?_
  rintro e w6 ⟨rfl, hb6⟩
  have HB6 := Lib.hid (HB5.out.trans (hb6.mono HB5.out.size))
  have U5 := Lib.hid ((hb6.block _ (lt_of_heap O5.out)).trans O5.out)
  have U6 := Lib.hid ((hb6.block _ (lt_of_heap O6.out)).trans O6.out)
  clear hb6 c5 c5' c5'' c7 c7' c7'' c8 c8' c8''
  obtain ⟨c0, c1, c2⟩ := cells3 U5.out
  obtain ⟨d0, d1, d2⟩ := cells3 U6.out
  go_wp2_with fail
  refine wp_region_quiet_below (by kernel_rfl) (by kernel_rfl) ?_
  repeat (go_big_quiet_step (first | (with_reducible exact S5.out _ _ _) | (with_reducible exact S6.out _ _ _) | (with_reducible exact S7.out _ _ _) | (with_reducible exact S8.out _ _ _) | (with_reducible exact S9.out _ _ _)))
  refine wpQuiet_nil ?_
  rintro _ ⟨⟨dq3, osq3⟩, rfl⟩
  have HF := Lib.hid (HB6.out.trans ((below_regrown w6 dq3 osq3).mono HB6.out.size))
  clear c0 c1 c2 d0 d1 d2
  go_wp2_with fail
  go_ret
  exact ⟨rfl, HF.out⟩
end Go.Proofs.Ytgiohbmllelhlaa.VecZ
