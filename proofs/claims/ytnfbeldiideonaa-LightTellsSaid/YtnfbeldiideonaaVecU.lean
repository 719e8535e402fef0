/- The walks of package vec: the rest. -/
import Derived.Test.YtnfbeldiideonaaVecV
import Derived.Deep.CutBlock
set_option linter.unusedVariables false
set_option linter.unusedSimpArgs false
namespace Go.Proofs.Ytnfbeldiideonaa.VecU
open Go.RowKit Go.Sort FixM Base Num FixW FixV FixU FixT FixS FixO FixN FixK FixP Qb Qt VecW VecV 

theorem alloc2_0 (w : World) (o0 o1 : Obj) : ((w.alloc o0).alloc o1).heap[w.heap.size]? = some o0 := by
  rw [heap_alloc_old _ _ (by simp)]; exact heap_alloc_new _ _
theorem alloc2_1 (w : World) (o0 o1 : Obj) : ((w.alloc o0).alloc o1).heap[w.heap.size + 1]? = some o1 := by
  have := heap_alloc_new (w.alloc o0) o1; simpa using this
theorem alloc2_below (w : World) (o0 o1 : Obj) : Below w.heap.size w ((w.alloc o0).alloc o1) := (ext_alloc w o0).alloc (by simp) o1
def map1 (F : Int → Int) (a : V3) : V3 := ⟨F a.x, F a.y, F a.z⟩
def dotF (a b : V3) : Int := addF (addF (mulF a.x b.x) (mulF a.y b.y)) (mulF a.z b.z)
def crossF (a b : V3) : V3 := ⟨subF (mulF a.y b.z) (mulF a.z b.y), subF (mulF a.z b.x) (mulF a.x b.z), subF (mulF a.x b.y) (mulF a.y b.x)⟩
def lenF (a : V3) : Int := sqrtF (dotF a a)
def unitF (a : V3) : V3 := if lenF a = 0 then ⟨0, 0, 0⟩ else map1 (fun x => divF x (lenF a)) a
def bendF (d n : V3) : V3 := map2 subF d (map1 (fun x => mulF x (addF (dotF d n) (dotF d n))) n)
theorem in_add (a b : Int) : In (addF a b) := clamp_in _
theorem in_sub (a b : Int) : In (subF a b) := clamp_in _
theorem in_mul (a b : Int) : In (mulF a b) := clamp_in _
theorem in_neg (a : Int) : In (negF a) := clamp_in _
theorem in_div (a b : Int) : In (divF a b) := by
  unfold divF
  split
  · unfold In; split <;> (try split) <;> omega
  · split <;> exact clamp_in _
theorem in_dot (a b : V3) : In (dotF a b) := clamp_in _
theorem in_len (a : V3) : In (lenF a) := by have := sqrtF_in (dotF a a) (in_dot a a).2; unfold In lenF; omega
theorem ok_map1 {F : Int → Int} (h : ∀ x, In (F x)) (a : V3) : (map1 F a).ok := ⟨h _, h _, h _⟩
theorem ok_map2 {F : Int → Int → Int} (h : ∀ x y, In (F x y)) (a b : V3) : (map2 F a b).ok := ⟨h _ _, h _ _, h _ _⟩
theorem ok_zero : (⟨0, 0, 0⟩ : V3).ok := by unfold V3.ok In; simp
theorem ok_unit (a : V3) : (unitF a).ok := by unfold unitF; split; exact ok_zero; exact ok_map1 (fun x => in_div _ _) a
theorem ok_cross (a b : V3) : (crossF a b).ok := ⟨in_sub _ _, in_sub _ _, in_sub _ _⟩
theorem ok_bend (d n : V3) : (bendF d n).ok := ok_map2 in_sub _ _
/-- a call's facts, seen from a world -/
theorem qa (x y : Int) (hx : In x) (hy : In y) (W : World) (d : Nat) (os : Array Obj) : Calls Try.prog 22 #[.int .i64 x, .int .i64 y] (grow (redrawn W d) os) (fun e w'' => e = .returned (.int .i64 (addF x y)) ∧ ∃ p : Regrown, w'' = grow (redrawn W p.d) p.os) := qs (fun w => add_any x y hx.1 hx.2 hy.1 hy.2 w) d os
theorem qm (x y : Int) (hx : In x) (hy : In y) (W : World) (d : Nat) (os : Array Obj) : Calls Try.prog 23 #[.int .i64 x, .int .i64 y] (grow (redrawn W d) os) (fun e w'' => e = .returned (.int .i64 (mulF x y)) ∧ ∃ p : Regrown, w'' = grow (redrawn W p.d) p.os) := qs (fun w => mul_any x y hx.1 hx.2 hy.1 hy.2 w) d os
theorem qsub (x y : Int) (hx : In x) (hy : In y) (W : World) (d : Nat) (os : Array Obj) : Calls Try.prog 28 #[.int .i64 x, .int .i64 y] (grow (redrawn W d) os) (fun e w'' => e = .returned (.int .i64 (subF x y)) ∧ ∃ p : Regrown, w'' = grow (redrawn W p.d) p.os) := qs (fun w => sub_any x y hx.1 hx.2 hy.1 hy.2 w) d os

set_option maxRecDepth 100000 in
set_option maxHeartbeats 2000000 in
theorem scale1_any (x y s : Int) (hx : In x) (hs : In s) (g : Nat) (w : World) (hc : w.cell? ⟨g, 0, none⟩ = some (.int .i64 s)) : Calls Try.prog 58 #[.int .i64 x, .int .i64 y, .pointer (some ⟨g, 0, none⟩)] w (VTo (.int .i64 (mulF x s)) w) := by
  have C1 := Lib.hid (fun w => mul_any x s hx.1 hx.2 hs.1 hs.2 w)
  clear hx hs
  go_enter Try.func58, Try.ntmps58
  go_wp2_with fail
  refine (C1.out _).mono ?_
  rintro e w1 ⟨rfl, rfl⟩
  go_wp2_with fail
  go_ret
  exact ⟨rfl, Below.refl _ _⟩
set_option maxRecDepth 100000 in
set_option maxHeartbeats 2000000 in
theorem unit1_any (x y s : Int) (hx : In x) (hs : In s) (g : Nat) (w : World) (hc : w.cell? ⟨g, 0, none⟩ = some (.int .i64 s)) : Calls Try.prog 57 #[.int .i64 x, .int .i64 y, .pointer (some ⟨g, 0, none⟩)] w (VTo (.int .i64 (divF x s)) w) := by
  have C1 := Lib.hid (fun w => drawn_to (div_any x s hx.1 hx.2 hs.1 hs.2 w))
  clear hx hs
  go_enter Try.func57, Try.ntmps57
  go_wp2_with fail
  refine (C1.out _).mono ?_
  rintro e w1 ⟨rfl, hb⟩
  have HB := Lib.hid hb
  clear hb
  go_wp2_with fail
  go_ret
  exact ⟨rfl, HB.out⟩
set_option maxRecDepth 100000 in
set_option maxHeartbeats 2000000 in
theorem vscale_any (a : V3) (s : Int) (ha : a.ok) (hs : In s) (w : World) : Calls Try.prog 30 #[vecV a, .int .i64 s] w (VTo (vecV (map1 (fun x => mulF x s) a)) w) := by
  obtain ⟨ax, ay, az⟩ := a
  obtain ⟨W, hW⟩ : ∃ W, W = ((w.alloc (box3 ⟨ax, ay, az⟩)).alloc (.cells #[.int .i64 s] 2)).alloc (box3 ⟨0, 0, 0⟩) := ⟨_, rfl⟩
  have h1 : W.heap[w.heap.size + 1]? = some (.cells #[.int .i64 s] 2) := by rw [hW]; exact alloc3_1 _ _ _ _
  have h2 : W.heap[w.heap.size + 1 + 1]? = some (box3 ⟨0, 0, 0⟩) := by rw [hW]; exact alloc3_2 _ _ _ _
  have hBW : Below w.heap.size w W := by rw [hW]; exact alloc3_below _ _ _ _
  have hcell : W.cell? ⟨w.heap.size + 1, 0, none⟩ = some (.int .i64 s) := by rw [cell_of_row W _ 0 _ _ _ h1]; rfl
  have hlt := lt_of_heap h1
  have hmf : ∀ (fn : Fn) (first cap : Array Value) (w : World), (Instr.makeFunc fn first cap).run Try.prog w = .ok (.func fn first cap) w := fun _ _ _ _ => rfl
  have C1 := Lib.hid (each_any 58 #[.pointer (some ⟨w.heap.size + 1, 0, none⟩)] (fun x _ => mulF x s) _ _ ha ha W (enters Try.func58 (by kernel_rfl) rfl)
    (fun x y w' hx hy hb => scale1_any x y s hx hs (w.heap.size + 1) w' ((hb.cell (p := ⟨w.heap.size + 1, 0, none⟩) hlt).trans hcell)))
  have H2 := Lib.hid h2
  have BW := Lib.hid hBW
  have HWW := Lib.hid hW
  clear ha hs hW h1 h2 hBW hcell hlt
  go_enter Try.func30, Try.ntmps30
  go_wp2_with fail
  rw [← HWW.out]
  refine C1.out.mono ?_
  rintro e w1 ⟨rfl, hb1⟩
  have HR1 := Lib.hid ((hb1.block _ (lt_of_heap H2.out)).trans H2.out)
  have HB1 := Lib.hid (BW.out.trans (hb1.mono BW.out.size))
  clear hb1
  have H3 := Lib.hid (setRow_heap w1 (w.heap.size + 1 + 1) _ #[.int .i64 (mulF ax s), .int .i64 (mulF ay s), .int .i64 (mulF az s)] _ _ HR1.out)
  have HB3 := Lib.hid (below_setRow HB1.out (show w.heap.size ≤ w.heap.size + 1 + 1 by omega) #[.int .i64 (mulF ax s), .int .i64 (mulF ay s), .int .i64 (mulF az s)])
  go_wp2_with (with_reducible refine store_vec rfl (.tmp 4) (.tmp 8) rfl rfl (w.heap.size + 1 + 1) (mulF ax s) (mulF ay s) (mulF az s) rfl rfl _ _ _ HR1.out ?_)
  generalize w1.setRow (w.heap.size + 1 + 1) #[.int .i64 (mulF ax s), .int .i64 (mulF ay s), .int .i64 (mulF az s)] = w3 at *
  refine bodyPost_ret (results_cell_row rfl _ _ (w.heap.size + 1 + 1) 23 _ _ _ rfl H3.out Try.underlying23 rfl vec_size) rfl ?_
  exact ⟨rfl, HB3.out⟩

set_option maxRecDepth 100000 in
set_option maxHeartbeats 2000000 in
theorem vdot_any (a b : V3) (ha : a.ok) (hb : b.ok) (w : World) : Calls Try.prog 63 #[vecV a, vecV b] w (VTo (.int .i64 (dotF a b)) w) := by
  have C1 := Lib.hid (fun w => vmul_any a b ha hb w)
  obtain ⟨ax, ay, az⟩ := a
  obtain ⟨bx, by', bz⟩ := b
  have BW := Lib.hid (alloc2_below w (box3 ⟨ax, ay, az⟩) (box3 ⟨bx, by', bz⟩))
  clear ha hb
  go_enter Try.func63, Try.ntmps63
  go_wp2_with fail
  refine (C1.out _).mono ?_
  rintro e w1 ⟨rfl, hb1⟩
  have HB1 := Lib.hid (BW.out.trans (hb1.mono BW.out.size))
  clear hb1
  obtain ⟨m1, hm1⟩ : ∃ m, m = mulF ax bx := ⟨_, rfl⟩
  obtain ⟨m2, hm2⟩ : ∃ m, m = mulF ay by' := ⟨_, rfl⟩
  obtain ⟨m3, hm3⟩ : ∃ m, m = mulF az bz := ⟨_, rfl⟩
  have i1 : In m1 := by rw [hm1]; exact in_mul _ _
  have i2 : In m2 := by rw [hm2]; exact in_mul _ _
  have i3 : In m3 := by rw [hm3]; exact in_mul _ _
  have HM := Lib.hid (show dotF ⟨ax, ay, az⟩ ⟨bx, by', bz⟩ = addF (addF m1 m2) m3 by rw [hm1, hm2, hm3]; rfl)
  simp only [vecV, map2, ← hm1, ← hm2, ← hm3]
  clear hm1 hm2 hm3
  go_wp2_with (with_reducible refine store_vec rfl (.tmp 5) (.tmp 8) rfl rfl w1.heap.size m1 m2 m3 rfl rfl _ _ _ (heap_alloc_new _ _) ?_)
  have hp := setRow_heap _ w1.heap.size _ #[.int .i64 m1, .int .i64 m2, .int .i64 m3] _ _ (heap_alloc_new w1 (box3 ⟨0, 0, 0⟩))
  have hpb := below_setRow (HB1.out.alloc HB1.out.size (box3 ⟨0, 0, 0⟩)) HB1.out.size #[.int .i64 m1, .int .i64 m2, .int .i64 m3]
  generalize (w1.alloc _).setRow w1.heap.size _ = W at *
  obtain ⟨c0, c1, c2⟩ := cells3 hp
  have q1 := qa m1 m2 i1 i2 W
  have q2 := qa (addF m1 m2) m3 (in_add _ _) i3 W
  have BP := Lib.hid hpb
  have Q1 := Lib.hid q1
  clear q1
  have Q2 := Lib.hid q2
  clear q2
  clear hp hpb i1 i2 i3
  refine wp_region_quiet_below (by kernel_rfl) (by kernel_rfl) ?_
  repeat (go_big_quiet_step (first | (with_reducible exact Q1.out _ _) | (with_reducible exact Q2.out _ _)))
  refine wpQuiet_nil ?_
  rintro _ ⟨⟨dq, osq⟩, rfl⟩
  have HF := Lib.hid (BP.out.trans ((below_regrown W dq osq).mono BP.out.size))
  go_wp2_with fail
  go_ret
  exact ⟨ret_int HM.out.symm, HF.out⟩

set_option maxRecDepth 100000 in
set_option maxHeartbeats 2000000 in
theorem vlen_any (a : V3) (ha : a.ok) (w : World) : Calls Try.prog 55 #[vecV a] w (VTo (.int .i64 (lenF a)) w) := by
  have C1 := Lib.hid (fun w => vdot_any a a ha ha w)
  have hd := in_dot a a
  have C2 := Lib.hid (fun w => sqrt_any (dotF a a) hd.1 hd.2 w)
  have HL := Lib.hid (show lenF a = sqrtF (dotF a a) from rfl)
  obtain ⟨ax, ay, az⟩ := a
  have BW := Lib.hid (ext_alloc w (box3 ⟨ax, ay, az⟩))
  clear ha hd
  go_enter Try.func55, Try.ntmps55
  go_wp2_with fail
  refine (C1.out _).mono ?_
  rintro e w1 ⟨rfl, hb1⟩
  have HB1 := Lib.hid (BW.out.trans (hb1.mono BW.out.size))
  clear hb1
  go_wp2_with fail
  refine (C2.out _).mono ?_
  rintro e w1 ⟨rfl, rfl⟩
  go_wp2_with fail
  go_ret
  exact ⟨ret_int HL.out.symm, HB1.out⟩

set_option maxRecDepth 100000 in
set_option maxHeartbeats 2000000 in
theorem vunit_any (a : V3) (ha : a.ok) (w : World) : Calls Try.prog 25 #[vecV a] w (VTo (vecV (unitF a)) w) := by
  have C1 := Lib.hid (fun w => vlen_any a ha w)
  have hl := in_len a
  have hmf : ∀ (fn : Fn) (first cap : Array Value) (w : World), (Instr.makeFunc fn first cap).run Try.prog w = .ok (.func fn first cap) w := fun _ _ _ _ => rfl
  have HU0 := Lib.hid (show lenF a = 0 → unitF a = ⟨0, 0, 0⟩ from fun h => by unfold unitF; rw [if_pos h])
  have HU1 := Lib.hid (show lenF a ≠ 0 → unitF a = map1 (fun x => divF x (lenF a)) a from fun h => by unfold unitF; rw [if_neg h])
  have C2 := Lib.hid (fun W => each_any 57 #[.pointer (some ⟨W, 0, none⟩)] (fun x _ => divF x (lenF a)) _ _ ha ha)
  obtain ⟨n, hn⟩ : ∃ n, n = lenF a := ⟨_, rfl⟩
  rw [← hn] at C1 hl HU0 HU1 C2
  obtain ⟨ax, ay, az⟩ := a
  have H2 := Lib.hid (alloc2_1 w (box3 ⟨ax, ay, az⟩) (box3 ⟨0, 0, 0⟩))
  have H0 := Lib.hid (alloc2_0 w (box3 ⟨ax, ay, az⟩) (box3 ⟨0, 0, 0⟩))
  have BW := Lib.hid (alloc2_below w (box3 ⟨ax, ay, az⟩) (box3 ⟨0, 0, 0⟩))
  have HIL := Lib.hid hl
  clear ha hn hl
  go_enter Try.func25, Try.ntmps25
  go_wp2_with fail
  refine (C1.out _).mono ?_
  rintro e w1 ⟨rfl, hb1⟩
  have g0 := (hb1.block _ (by simp; omega)).trans H0.out
  have g2 := (hb1.block _ (by simp)).trans H2.out
  have hB1 := BW.out.trans (hb1.mono BW.out.size)
  clear hb1
  obtain ⟨W, hW⟩ : ∃ W, W = w1.alloc (.cells #[.int .i64 n] 2) := ⟨_, rfl⟩
  have hK : Keeps (fun _ => False) w1 W := by rw [hW]; exact (Keeps.refl _ _).alloc _
  have k0 : W.heap[w.heap.size]? = some (box3 ⟨ax, ay, az⟩) := (hK.block _ (lt_of_heap g0) (fun h => h)).trans g0
  have k2 : W.heap[w.heap.size + 1]? = some (box3 ⟨0, 0, 0⟩) := (hK.block _ (lt_of_heap g2) (fun h => h)).trans g2
  have kn : W.cell? ⟨w1.heap.size, 0, none⟩ = some (.int .i64 n) := by rw [hW, World.cell?_alloc_at _ _ _ _ rfl]; rfl
  have kl : w1.heap.size < W.heap.size := by rw [hW]; simp
  have kb : Below w.heap.size w W := hB1.trans ((hK.ext (fun _ h => h.elim)).mono hB1.size)
  have c0 := (cell_of_row W w.heap.size 0 _ _ _ k0)
  have c1 := (cell_of_row W w.heap.size 1 _ _ _ k0)
  have c2 := (cell_of_row W w.heap.size 2 _ _ _ k0)
  simp only [List.getElem?_toArray, List.getElem?_cons_succ, List.getElem?_cons_zero] at c0 c1 c2
  have C3 := Lib.hid (C2.out w1.heap.size W (enters Try.func57 (by kernel_rfl) rfl) (fun x y w' hx hy hb => unit1_any x y n hx HIL.out w1.heap.size w' ((hb.cell (p := ⟨w1.heap.size, 0, none⟩) kl).trans kn)))
  have K2 := Lib.hid k2
  have KB := Lib.hid kb
  have HW := Lib.hid hW
  clear g0 g2 hB1 hW hK k0 k2 kl kb
  go_upto_region 2 with (fail)
  rw [← HW.out]
  clear HW
  by_cases h0 : n = 0
  · have HUU := Lib.hid (HU0.out h0)
    have b0 : (n == 0) = true := by simpa using h0
    clear h0
    go_wp2_with (first | (with_reducible refine store_vec rfl (.tmp 2) (.tmp 8) rfl rfl (w.heap.size + 1) 0 0 0 rfl rfl _ _ _ K2.out ?_))
    have H3 := Lib.hid (setRow_heap W (w.heap.size + 1) _ #[.int .i64 0, .int .i64 0, .int .i64 0] _ _ K2.out)
    have HB3 := Lib.hid (below_setRow KB.out (show w.heap.size ≤ w.heap.size + 1 by omega) #[.int .i64 0, .int .i64 0, .int .i64 0])
    generalize W.setRow (w.heap.size + 1) #[.int .i64 0, .int .i64 0, .int .i64 0] = w3 at *
    refine bodyPost_ret (results_cell_row rfl _ _ (w.heap.size + 1) 23 _ _ _ rfl H3.out Try.underlying23 rfl vec_size) rfl ?_
    exact ⟨by rw [HUU.out], HB3.out⟩
  · have HUU := Lib.hid (HU1.out h0)
    have b0 : (n == 0) = false := by simpa using h0
    clear h0
    go_wp2_with fail
    refine C3.out.mono ?_
    rintro e w2 ⟨rfl, hb2⟩
    have HR1 := Lib.hid ((hb2.block _ (lt_of_heap K2.out)).trans K2.out)
    have HB1 := Lib.hid (KB.out.trans (hb2.mono KB.out.size))
    clear hb2
    have H3 := Lib.hid (setRow_heap w2 (w.heap.size + 1) _ #[.int .i64 (divF ax n), .int .i64 (divF ay n), .int .i64 (divF az n)] _ _ HR1.out)
    have HB3 := Lib.hid (below_setRow HB1.out (show w.heap.size ≤ w.heap.size + 1 by omega) #[.int .i64 (divF ax n), .int .i64 (divF ay n), .int .i64 (divF az n)])
    go_wp2_with (with_reducible refine store_vec rfl (.tmp 2) (.tmp 12) rfl rfl (w.heap.size + 1) (divF ax n) (divF ay n) (divF az n) rfl rfl _ _ _ HR1.out ?_)
    generalize w2.setRow (w.heap.size + 1) #[.int .i64 (divF ax n), .int .i64 (divF ay n), .int .i64 (divF az n)] = w3 at *
    refine bodyPost_ret (results_cell_row rfl _ _ (w.heap.size + 1) 23 _ _ _ rfl H3.out Try.underlying23 rfl vec_size) rfl ?_
    exact ⟨by rw [HUU.out]; rfl, HB3.out⟩

set_option maxRecDepth 100000 in
set_option maxHeartbeats 2000000 in
theorem vcross_any (a b : V3) (ha : a.ok) (hb : b.ok) (w : World) : Calls Try.prog 27 #[vecV a, vecV b] w (VTo (vecV (crossF a b)) w) := by
  obtain ⟨ax, ay, az⟩ := a
  obtain ⟨bx, by', bz⟩ := b
  obtain ⟨ha1, ha2, ha3⟩ := ha
  obtain ⟨hb1, hb2, hb3⟩ := hb
  obtain ⟨W, hW⟩ : ∃ W, W = ((w.alloc (box3 ⟨ax, ay, az⟩)).alloc (box3 ⟨bx, by', bz⟩)).alloc (box3 ⟨0, 0, 0⟩) := ⟨_, rfl⟩
  have h0 : W.heap[w.heap.size]? = some (box3 ⟨ax, ay, az⟩) := by rw [hW]; exact alloc3_0 _ _ _ _
  have h1 : W.heap[w.heap.size + 1]? = some (box3 ⟨bx, by', bz⟩) := by rw [hW]; exact alloc3_1 _ _ _ _
  have h2 : W.heap[w.heap.size + 1 + 1]? = some (box3 ⟨0, 0, 0⟩) := by rw [hW]; exact alloc3_2 _ _ _ _
  have hBW : Below w.heap.size w W := by rw [hW]; exact alloc3_below _ _ _ _
  obtain ⟨c0, c1, c2⟩ := cells3 h0
  obtain ⟨d0, d1, d2⟩ := cells3 h1
  have q1 := qm ay bz ha2 hb3 W
  have q2 := qm az by' ha3 hb2 W
  have q3 := qm az bx ha3 hb1 W
  have q4 := qm ax bz ha1 hb3 W
  have q5 := qm ax by' ha1 hb2 W
  have q6 := qm ay bx ha2 hb1 W
  have q7 := qsub (mulF ay bz) (mulF az by') (in_mul _ _) (in_mul _ _) W
  have q8 := qsub (mulF az bx) (mulF ax bz) (in_mul _ _) (in_mul _ _) W
  have q9 := qsub (mulF ax by') (mulF ay bx) (in_mul _ _) (in_mul _ _) W
  have H2 := Lib.hid h2
  have HBW := Lib.hid hBW
  have HWW := Lib.hid hW
  have Q1 := Lib.hid q1
  clear q1
  have Q2 := Lib.hid q2
  clear q2
  have Q3 := Lib.hid q3
  clear q3
  have Q4 := Lib.hid q4
  clear q4
  have Q5 := Lib.hid q5
  clear q5
  have Q6 := Lib.hid q6
  clear q6
  have Q7 := Lib.hid q7
  clear q7
  have Q8 := Lib.hid q8
  clear q8
  have Q9 := Lib.hid q9
  clear q9
  clear h0 h1 h2 hBW hW ha1 ha2 ha3 hb1 hb2 hb3
  go_enter Try.func27, Try.ntmps27
  go_wp2_with fail
  rw [← HWW.out]
  refine wp_region_below_tail 34 (by kernel_rfl) (by kernel_rfl) ?_
  simp only [List.take_succ_cons, List.take_zero, List.drop_succ_cons, List.drop_zero]
  repeat (go_big_quiet_step (first | (with_reducible exact Q1.out _ _) | (with_reducible exact Q2.out _ _) | (with_reducible exact Q3.out _ _) | (with_reducible exact Q4.out _ _) | (with_reducible exact Q5.out _ _) | (with_reducible exact Q6.out _ _) | (with_reducible exact Q7.out _ _) | (with_reducible exact Q8.out _ _) | (with_reducible exact Q9.out _ _)))
  refine wpQuiet_nil ?_
  rintro _ ⟨⟨dq, osq⟩, rfl⟩
  refine store_vec rfl (.tmp 4) (.tmp 38) rfl rfl (w.heap.size + 1 + 1) (subF (mulF ay bz) (mulF az by')) (subF (mulF az bx) (mulF ax bz)) (subF (mulF ax by') (mulF ay bx)) rfl rfl _ _ _ (heap_regrown H2.out dq osq) ?_
  have hb2 : Below w.heap.size w (grow (redrawn W dq) osq) := HBW.out.trans ((below_regrown W dq osq).mono HBW.out.size)
  have H3 := Lib.hid (setRow_heap (grow (redrawn W dq) osq) (w.heap.size + 1 + 1) _ #[.int .i64 (subF (mulF ay bz) (mulF az by')), .int .i64 (subF (mulF az bx) (mulF ax bz)), .int .i64 (subF (mulF ax by') (mulF ay bx))] _ _ (heap_regrown H2.out dq osq))
  have HB3 := Lib.hid (below_setRow hb2 (show w.heap.size ≤ w.heap.size + 1 + 1 by omega) #[.int .i64 (subF (mulF ay bz) (mulF az by')), .int .i64 (subF (mulF az bx) (mulF ax bz)), .int .i64 (subF (mulF ax by') (mulF ay bx))])
  clear hb2
  generalize (grow (redrawn W dq) osq).setRow (w.heap.size + 1 + 1) #[.int .i64 (subF (mulF ay bz) (mulF az by')), .int .i64 (subF (mulF az bx) (mulF ax bz)), .int .i64 (subF (mulF ax by') (mulF ay bx))] = w3 at *
  go_wp2_with fail
  refine bodyPost_ret (results_cell_row rfl _ _ (w.heap.size + 1 + 1) 23 _ _ _ rfl H3.out Try.underlying23 rfl vec_size) rfl ?_
  exact ⟨rfl, HB3.out⟩

set_option maxRecDepth 100000 in
set_option maxHeartbeats 2000000 in
theorem vbend_any (a b : V3) (ha : a.ok) (hb : b.ok) (w : World) : Calls Try.prog 40 #[vecV a, vecV b] w (VTo (vecV (bendF a b)) w) := by
  have C1 := Lib.hid (fun w => vdot_any a b ha hb w)
  have hi := in_dot a b
  have C2 := fun W d os => qa (dotF a b) (dotF a b) hi hi W d os
  have C3 := fun W => qb (P := Try.prog) (W := W) (fun w2 _ => vscale_any b (addF (dotF a b) (dotF a b)) hb (in_add _ _) w2)
  have C4 := fun W => qb (P := Try.prog) (W := W) (fun w2 _ => vsub_any a (map1 (fun x => mulF x (addF (dotF a b) (dotF a b))) b) ha (ok_map1 (fun x => in_mul _ _) b) w2)
  obtain ⟨x, hx⟩ : ∃ x, x = dotF a b := ⟨_, rfl⟩
  have HX := Lib.hid (show bendF a b = map2 subF a (map1 (fun t => mulF t (addF x x)) b) by rw [hx]; rfl)
  rw [← hx] at C1 C2 C3 C4
  have hb' := hb
  clear hx hi
  obtain ⟨ax, ay, az⟩ := a
  obtain ⟨bx, by', bz⟩ := b
  obtain ⟨W, hW⟩ : ∃ W, W = ((w.alloc (box3 ⟨ax, ay, az⟩)).alloc (box3 ⟨bx, by', bz⟩)).alloc (box3 ⟨0, 0, 0⟩) := ⟨_, rfl⟩
  have h0 : W.heap[w.heap.size]? = some (box3 ⟨ax, ay, az⟩) := by rw [hW]; exact alloc3_0 _ _ _ _
  have h1 : W.heap[w.heap.size + 1]? = some (box3 ⟨bx, by', bz⟩) := by rw [hW]; exact alloc3_1 _ _ _ _
  have h2 : W.heap[w.heap.size + 1 + 1]? = some (box3 ⟨0, 0, 0⟩) := by rw [hW]; exact alloc3_2 _ _ _ _
  have hBW : Below w.heap.size w W := by rw [hW]; exact alloc3_below _ _ _ _
  have C5 := Lib.hid C2
  have C6 := Lib.hid C3
  have C7 := Lib.hid C4
  have H0 := Lib.hid h0
  have H1 := Lib.hid h1
  have H2 := Lib.hid h2
  have HBW := Lib.hid hBW
  have HWW := Lib.hid hW
  clear h0 h1 h2 hBW hW C2 C3 C4 ha hb hb'
  go_enter Try.func40, Try.ntmps40
  go_wp2_with fail
  rw [← HWW.out]
  refine (C1.out _).mono ?_
  rintro e w1 ⟨rfl, hb1⟩
  have g0 := (hb1.block _ (lt_of_heap H0.out)).trans H0.out
  have g1 := (hb1.block _ (lt_of_heap H1.out)).trans H1.out
  have G2 := Lib.hid ((hb1.block _ (lt_of_heap H2.out)).trans H2.out)
  have GB := Lib.hid (HBW.out.trans (hb1.mono HBW.out.size))
  obtain ⟨c0, c1, c2⟩ := cells3 g0
  obtain ⟨d0, d1, d2⟩ := cells3 g1
  have q1 := C5.out w1
  have q2 := C6.out w1
  have q3 := C7.out w1
  simp only [vecV, map1, map2] at q2 q3
  have Q1 := Lib.hid q1
  have Q2 := Lib.hid q2
  have Q3 := Lib.hid q3
  clear hb1 g0 g1 q1 q2 q3
  go_wp2_with fail
  refine wp_region_below_tail 7 (by kernel_rfl) (by kernel_rfl) ?_
  simp only [List.take_succ_cons, List.take_zero, List.drop_succ_cons, List.drop_zero]
  repeat (go_big_quiet_step (first | (with_reducible exact Q1.out _ _) | (with_reducible exact Q2.out _ _) | (with_reducible exact Q3.out _ _)))
  refine wpQuiet_nil ?_
  rintro _ ⟨⟨dq, osq⟩, rfl⟩
  refine store_vec rfl (.tmp 4) (.tmp 15) rfl rfl (w.heap.size + 1 + 1) (subF ax (mulF bx (addF x x))) (subF ay (mulF by' (addF x x))) (subF az (mulF bz (addF x x))) rfl rfl _ _ _ (heap_regrown G2.out dq osq) ?_
  have hb2 : Below w.heap.size w (grow (redrawn w1 dq) osq) := GB.out.trans ((below_regrown w1 dq osq).mono GB.out.size)
  have H3 := Lib.hid (setRow_heap (grow (redrawn w1 dq) osq) (w.heap.size + 1 + 1) _ #[.int .i64 (subF ax (mulF bx (addF x x))), .int .i64 (subF ay (mulF by' (addF x x))), .int .i64 (subF az (mulF bz (addF x x)))] _ _ (heap_regrown G2.out dq osq))
  have HB3 := Lib.hid (below_setRow hb2 (show w.heap.size ≤ w.heap.size + 1 + 1 by omega) #[.int .i64 (subF ax (mulF bx (addF x x))), .int .i64 (subF ay (mulF by' (addF x x))), .int .i64 (subF az (mulF bz (addF x x)))])
  clear hb2
  generalize (grow (redrawn w1 dq) osq).setRow (w.heap.size + 1 + 1) #[.int .i64 (subF ax (mulF bx (addF x x))), .int .i64 (subF ay (mulF by' (addF x x))), .int .i64 (subF az (mulF bz (addF x x)))] = w3 at *
  go_wp2_with fail
  refine bodyPost_ret (results_cell_row rfl _ _ (w.heap.size + 1 + 1) 23 _ _ _ rfl H3.out Try.underlying23 rfl vec_size) rfl ?_
  exact ⟨by rw [HX.out]; rfl, HB3.out⟩

end Go.Proofs.Ytnfbeldiideonaa.VecU
