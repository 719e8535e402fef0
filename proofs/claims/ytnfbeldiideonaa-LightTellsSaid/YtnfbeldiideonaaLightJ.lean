/- The law LightTells. -/
import Derived.Test.YtnfbeldiideonaaLightE
import Derived.Test.YtnfbeldiideonaaLightG
import Derived.Test.YtnfbeldiideonaaLightH
import Derived.Test.YtnfbeldiideonaaLightI
import Derived.Test.YtnfbeldiideonaaLightS
import Derived.Test.YtnfbeldiideonaaOpenScn
import Derived.Test.YtnfbeldiideonaaLex
set_option linter.unusedVariables false
set_option linter.unusedSimpArgs false
namespace Go.Proofs.Ytnfbeldiideonaa.LightJ
open Go.RowKit Go.Sort FixM Base Num FixW FixV FixU FixT FixS FixO FixN FixK FixP Qb Qt VecW VecV VecU VecR LightM LightW LightQ LightK Qa LightC LightP LightD LightE LightG LightH LightI LightS LightB LightR ArrF OpenScn

set_option maxRecDepth 100000 in
set_option maxHeartbeats 2000000 in
theorem rmirror_any (d n : V3) (a b : Int) (hd : d.ok) (hn : n.ok) (w : World) : Calls Try.prog 11 #[.int .u8 2, vecV d, vecV n, .int .i64 a, .int .i64 b] w (VTo (vecV (bendF d n)) w) := by
  have C1 := Lib.hid (fun w => vrbend_any d n hd hn w)
  obtain ⟨p, hp⟩ : ∃ p, p = bendF d n := ⟨_, rfl⟩
  rw [← hp] at C1 ⊢
  obtain ⟨px, py, pz⟩ := p
  obtain ⟨dx, dy, dz⟩ := d
  obtain ⟨nx, ny, nz⟩ := n
  have H2 := Lib.hid (alloc3_2 w (box3 ⟨dx, dy, dz⟩) (box3 ⟨nx, ny, nz⟩) (box3 ⟨0, 0, 0⟩))
  have BW := Lib.hid (alloc3_below w (box3 ⟨dx, dy, dz⟩) (box3 ⟨nx, ny, nz⟩) (box3 ⟨0, 0, 0⟩))
  clear hd hn hp
  go_enter Try.func11, Try.ntmps11
  go_wp2_with fail
  refine (C1.out _).mono ?_
  rintro e w1 ⟨rfl, hb1⟩
  have HR1 := Lib.hid ((hb1.block _ (by simp)).trans H2.out)
  have HB1 := Lib.hid (BW.out.trans (hb1.mono BW.out.size))
  clear hb1
  have H3 := Lib.hid (setRow_heap w1 (w.heap.size + 1 + 1) _ #[.int .i64 px, .int .i64 py, .int .i64 pz] _ _ HR1.out)
  have HB3 := Lib.hid (below_setRow HB1.out (show w.heap.size ≤ w.heap.size + 1 + 1 by omega) #[.int .i64 px, .int .i64 py, .int .i64 pz])
  go_wp2_with (with_reducible refine store_vec rfl (.tmp 10) (.tmp 22) rfl rfl (w.heap.size + 1 + 1) px py pz rfl rfl _ _ _ HR1.out ?_)
  generalize w1.setRow (w.heap.size + 1 + 1) #[.int .i64 px, .int .i64 py, .int .i64 pz] = w3 at *
  refine bodyPost_ret (results_cell_row rfl _ _ (w.heap.size + 1 + 1) 23 _ _ _ rfl H3.out Try.underlying23 rfl vec_size) rfl ?_
  exact ⟨rfl, HB3.out⟩

theorem bounce_any (k : Int) (d n : V3) (a b : Int) (hd : d.ok) (hn : n.ok) (ha : In a) (hb : In b) (w : World) : Calls Try.prog 10 #[.int .u8 k, vecV d, vecV n, .int .i64 a, .int .i64 b] w (VTo (vecV (bounceF k d n a b)) w) := by
  unfold bounceF
  by_cases h : k = 2
  · subst h; rw [if_pos rfl]; exact mirror_any d n a b hd hn w
  · rw [if_neg h]; exact round_any k d n a b h hd hn ha hb w
theorem rbounce_any (k : Int) (d n : V3) (a b : Int) (hd : d.ok) (hn : n.ok) (ha : In a) (hb : In b) (w : World) : Calls Try.prog 11 #[.int .u8 k, vecV d, vecV n, .int .i64 a, .int .i64 b] w (VTo (vecV (bounceF k d n a b)) w) := by
  unfold bounceF
  by_cases h : k = 2
  · subst h; rw [if_pos rfl]; exact rmirror_any d n a b hd hn w
  · rw [if_neg h]; exact rround_any k d n a b h hd hn ha hb w
structure Tl (w : World) (r1 r2 : Array Value) (W : World) : Prop where
  h0 : W.heap[w.heap.size]? = some (.cells r1 34)
  h1 : W.heap[w.heap.size + 1]? = some (.cells r2 39)
  hb : Below w.heap.size w W
theorem Tl.step {w W W' : World} {r1 r2 : Array Value} (h : Tl w r1 r2 W) (hb : Below W.heap.size W W') : Tl w r1 r2 W' :=
  ⟨(hb.block _ (lt_of_heap h.h0)).trans h.h0, (hb.block _ (lt_of_heap h.h1)).trans h.h1, h.hb.trans (hb.mono h.hb.size)⟩
theorem wpQuiet_load_scn {ops : Array Oper} {W : World} {Q : Act → Prop} {rest : List Oper} {o : Oper} {a : Act} (hgd : Region.wanted o (yielded ops a.tmps) = true) (x : Operand)
    (ho : o.op = .load 34 x) (g : Nat) (hx : a.eval x = .pointer (some ⟨g, 0, none⟩)) (cs : Array Value) (hg : W.heap[g]? = some (.cells cs 34)) (hc : cs.size = 21)
    (h : wpQuiet Try.prog ops (fun w' => ∃ p : Regrown, w' = grow (redrawn W p.d) p.os) Q rest (a.put o.dst (.agg cs))) : wpQuiet Try.prog ops (fun w' => ∃ p : Regrown, w' = grow (redrawn W p.d) p.os) Q (o :: rest) a := by
  refine BigFrame.wpQuiet_want hgd fun K hK => ⟨.agg cs, fun w hw => ?_, hK _ h⟩
  obtain ⟨p, rfl⟩ := hw
  have hl := run_loadVar_row (P := Try.prog) (grow (redrawn W p.d) p.os) g 34 34 cs (0, 0) _ (heap_regrown hg p.d p.os) Try.underlying34 rfl (by rw [hc]; exact scn_size)
  unfold Oper.quietAt execOp
  simp only [ho, hx, Instr.loadAt, Instr.sureAddr, Sem.run_bind, Sem.run_pure, Result.andThen_ok, hl, Oper.quietUpon]
  first | exact ⟨rfl, rfl⟩ | exact ⟨trivial, trivial⟩ | trivial
set_option maxRecDepth 100000 in
set_option maxHeartbeats 8000000 in
theorem tells_any (s : Scn) (c : Cse) (hs : s.ok) (hc : c.ok) (w : World) : Calls Try.prog 4 #[.agg s.row, .agg c.row] w fun e w' => e = .returned (.bool true) ∧ Below w.heap.size w w' := by
  have c1 := fun w => camera_any s hs c.x c.y c.a c.b hc.x hc.y hc.a hc.b w
  have c2 := fun w => rcamera_any s hs c.x c.y c.a c.b hc.x hc.y hc.a hc.b w
  obtain ⟨e1, he1⟩ : ∃ e, e = cameraF s.w s.h s.eye s.at' s.up s.wide c.x c.y c.a c.b := ⟨_, rfl⟩
  rw [← he1] at c1 c2
  have c3 := fun w => bounce_any c.k c.d c.n c.a c.b hc.d hc.n hc.a hc.b w
  have c4 := fun w => rbounce_any c.k c.d c.n c.a c.b hc.d hc.n hc.a hc.b w
  obtain ⟨e2, he2⟩ : ∃ e, e = bounceF c.k c.d c.n c.a c.b := ⟨_, rfl⟩
  rw [← he2] at c3 c4
  have c5 := fun w => look_any c.n c.d c.n c.t c.i c.u c.v hc.n hc.d hc.t w
  have c6 := fun w => rlook_any c.n c.d c.n c.t c.i c.u c.v hc.n hc.d hc.t w
  unfold lookV at c5 c6
  obtain ⟨e3, he3⟩ : ∃ e, e = lookP c.n c.d c.t := ⟨_, rfl⟩
  rw [← he3] at c5 c6
  have c7 := fun w => lclamp_any c.d hc.d w
  have c8 := fun w => rClamp_any c.d hc.d w
  obtain ⟨e4, he4⟩ : ∃ e, e = map1 clampL c.d := ⟨_, rfl⟩
  rw [← he4] at c7 c8
  have c9 := fun w => lpixel_any c.d c.x hc.d hc.x w
  have c10 := fun w => rpixel_any c.d c.x hc.d hc.x w
  unfold bytes4 at c9 c10
  obtain ⟨p1, hp1⟩ : ∃ e, e = pixL c.d.x c.x := ⟨_, rfl⟩
  obtain ⟨p2, hp2⟩ : ∃ e, e = pixL c.d.y c.x := ⟨_, rfl⟩
  obtain ⟨p3, hp3⟩ : ∃ e, e = pixL c.d.z c.x := ⟨_, rfl⟩
  rw [← hp1, ← hp2, ← hp3] at c9 c10
  clear he1 he2 he3 he4 hp1 hp2 hp3 hs hc
  obtain ⟨x, y, a, b, ⟨d1, d2, d3⟩, ⟨n1, n2, n3⟩, k, t, i, u, v⟩ := c
  obtain ⟨j1, j2, j3⟩ := e1
  obtain ⟨b1, b2, b3⟩ := e2
  obtain ⟨l1, l2, l3⟩ := e3
  obtain ⟨m1, m2, m3⟩ := e4
  obtain ⟨ey, hey⟩ : ∃ e : V3, e = s.eye := ⟨_, rfl⟩
  rw [← hey] at c1 c2
  obtain ⟨r1, hr1⟩ : ∃ r, r = s.row := ⟨_, rfl⟩
  rw [← hr1] at c1 c2 ⊢
  obtain ⟨g1, g2, g3⟩ := ey
  have hsz : r1.size = 21 := by rw [hr1]; rfl
  clear hr1 hey
  dsimp only [vecV, Cse.row, rayV] at *
  have C1 := Lib.hid c1
  have C2 := Lib.hid c2
  have C3 := Lib.hid c3
  have C4 := Lib.hid c4
  have C5 := Lib.hid c5
  have C6 := Lib.hid c6
  have C7 := Lib.hid c7
  have C8 := Lib.hid c8
  have C9 := Lib.hid c9
  have C10 := Lib.hid c10
  clear c1 c2 c3 c4 c5 c6 c7 c8 c9 c10
  have C11 := Lib.hid awake_any
  have EQ := eq4
  obtain ⟨W, hW⟩ : ∃ W, W = (w.alloc (.cells r1 34)).alloc (.cells #[.int .i64 x, .int .i64 y, .int .i64 a, .int .i64 b, .int .i64 d1, .int .i64 d2, .int .i64 d3, .int .i64 n1, .int .i64 n2, .int .i64 n3, .int .u8 k, .int .i64 t, .int .i64 i, .int .i64 u, .int .i64 v] 39) := ⟨_, rfl⟩
  have T0 := Lib.hid (show Tl w r1 #[.int .i64 x, .int .i64 y, .int .i64 a, .int .i64 b, .int .i64 d1, .int .i64 d2, .int .i64 d3, .int .i64 n1, .int .i64 n2, .int .i64 n3, .int .u8 k, .int .i64 t, .int .i64 i, .int .i64 u, .int .i64 v] W from ⟨by rw [hW]; exact alloc2_0 _ _ _, by rw [hW]; exact alloc2_1 _ _ _, by rw [hW]; exact alloc2_below _ _ _⟩)
  have z0 := LightD.cell_row T0.out.h1 0 (.int .i64 x) rfl
  have z1 := LightD.cell_row T0.out.h1 1 (.int .i64 y) rfl
  have z2 := LightD.cell_row T0.out.h1 2 (.int .i64 a) rfl
  have z3 := LightD.cell_row T0.out.h1 3 (.int .i64 b) rfl
  have z4 := LightD.cell_row T0.out.h1 4 (.int .i64 d1) rfl
  have z5 := LightD.cell_row T0.out.h1 5 (.int .i64 d2) rfl
  have z6 := LightD.cell_row T0.out.h1 6 (.int .i64 d3) rfl
  have z7 := LightD.cell_row T0.out.h1 7 (.int .i64 n1) rfl
  have z8 := LightD.cell_row T0.out.h1 8 (.int .i64 n2) rfl
  have z9 := LightD.cell_row T0.out.h1 9 (.int .i64 n3) rfl
  have z10 := LightD.cell_row T0.out.h1 10 (.int .u8 k) rfl
  have z11 := LightD.cell_row T0.out.h1 11 (.int .i64 t) rfl
  have z12 := LightD.cell_row T0.out.h1 12 (.int .i64 i) rfl
  have z13 := LightD.cell_row T0.out.h1 13 (.int .i64 u) rfl
  have z14 := LightD.cell_row T0.out.h1 14 (.int .i64 v) rfl
  have HWW := Lib.hid hW
  clear hW
  have Q1 := Lib.hid (fun W => qb (P := Try.prog) (W := W) (fun w2 _ => C1.out w2))
  have Q2 := Lib.hid (fun W => qb (P := Try.prog) (W := W) (fun w2 _ => C2.out w2))
  have Q3 := Lib.hid (fun W => qb (P := Try.prog) (W := W) (fun w2 _ => C3.out w2))
  have Q4 := Lib.hid (fun W => qb (P := Try.prog) (W := W) (fun w2 _ => C4.out w2))
  have Q5 := Lib.hid (fun W => qb (P := Try.prog) (W := W) (fun w2 _ => C5.out w2))
  have Q6 := Lib.hid (fun W => qb (P := Try.prog) (W := W) (fun w2 _ => C6.out w2))
  have Q7 := Lib.hid (fun W => qb (P := Try.prog) (W := W) (fun w2 _ => C7.out w2))
  have Q8 := Lib.hid (fun W => qb (P := Try.prog) (W := W) (fun w2 _ => C8.out w2))
  have Q9 := Lib.hid (fun W => qb (P := Try.prog) (W := W) (fun w2 _ => C9.out w2))
  have Q10 := Lib.hid (fun W => qb (P := Try.prog) (W := W) (fun w2 _ => C10.out w2))
  have Q11 := Lib.hid (fun W => qb (P := Try.prog) (W := W) (fun w2 _ => C11.out w2))
  clear C1 C2 C3 C4 C5 C6 C7 C8 C9 C10 C11 z0 z1 z2 z3 z4 z5 z6 z7 z8 z9 z10 z11 z12 z13 z14
  go_enter Try.func4, Try.ntmps4
  go_wp2_with fail
  rw [← HWW.out]
  have z0 := cell_all T0.out.h1 0 (.int .i64 x) rfl
  have z1 := cell_all T0.out.h1 1 (.int .i64 y) rfl
  have z2 := cell_all T0.out.h1 2 (.int .i64 a) rfl
  have z3 := cell_all T0.out.h1 3 (.int .i64 b) rfl
  have z4 := cell_all T0.out.h1 4 (.int .i64 d1) rfl
  have z5 := cell_all T0.out.h1 5 (.int .i64 d2) rfl
  have z6 := cell_all T0.out.h1 6 (.int .i64 d3) rfl
  have z7 := cell_all T0.out.h1 7 (.int .i64 n1) rfl
  have z8 := cell_all T0.out.h1 8 (.int .i64 n2) rfl
  have z9 := cell_all T0.out.h1 9 (.int .i64 n3) rfl
  have z10 := cell_all T0.out.h1 10 (.int .u8 k) rfl
  have z11 := cell_all T0.out.h1 11 (.int .i64 t) rfl
  have z12 := cell_all T0.out.h1 12 (.int .i64 i) rfl
  have z13 := cell_all T0.out.h1 13 (.int .i64 u) rfl
  have z14 := cell_all T0.out.h1 14 (.int .i64 v) rfl
  have HS := Lib.hid T0.out.h0
  have HZ := Lib.hid hsz
  clear hsz
  refine wp_region_quiet_below (by kernel_rfl) (by
    refine Lex.lexB_of 95 (by as_aux_lemma => kernel_rfl) rfl ?_
    iterate 95 refine Lex.step (by as_aux_lemma => kernel_rfl) (by as_aux_lemma => kernel_rfl) ?_
    kernel_rfl) ?_
  repeat (first
    | (refine wpQuiet_load_scn rfl (.tmp 2) rfl w.heap.size rfl r1 HS.out HZ.out ?_; go_simp)
    | go_big_quiet_step (first | (with_reducible exact Q1.out _ _ _) | (with_reducible exact Q2.out _ _ _) | (with_reducible exact Q3.out _ _ _) | (with_reducible exact Q4.out _ _ _) | (with_reducible exact Q5.out _ _ _) | (with_reducible exact Q6.out _ _ _) | (with_reducible exact Q7.out _ _ _) | (with_reducible exact Q8.out _ _ _) | (with_reducible exact Q9.out _ _ _) | (with_reducible exact Q10.out _ _ _) | (with_reducible exact Q11.out _ _ _)))
  refine wpQuiet_nil ?_
  first | (rintro _ ⟨⟨dq, osq⟩, rfl⟩) | (rintro ⟨dq, osq⟩)
  have HB7 := Lib.hid (T0.out.hb.trans ((below_regrown W dq osq).mono T0.out.hb.size))
  go_wp2_with fail
  go_ret
  exact ⟨rfl, HB7.out⟩
end Go.Proofs.Ytnfbeldiideonaa.LightJ
