/- The walks of package vec: what goes number by number. -/
import Derived.Test.YtnfbeldiideonaaVecW
set_option linter.unusedVariables false
set_option linter.unusedSimpArgs false
namespace Go.Proofs.Ytnfbeldiideonaa.VecV
open Go.RowKit Go.Sort FixM Base Num FixW FixV FixU FixT FixS FixO FixN FixK FixP Qb Qt VecW

def VTo (v : Value) (w : World) (e : Ending) (w' : World) : Prop := e = .returned v ∧ Below w.heap.size w w'
theorem same_below {f : FuncId} {args : Array Value} {w : World} {v : Value} (h : Calls Try.prog f args w (fun e w' => e = .returned v ∧ w = w')) : Calls Try.prog f args w (VTo v w) :=
  h.mono fun _ _ h => ⟨h.1, by rw [← h.2]; exact Below.refl _ _⟩
theorem drawn_to {f : FuncId} {args : Array Value} {w : World} {v : Value} (h : Calls Try.prog f args w (Drawn v w)) : Calls Try.prog f args w (VTo v w) :=
  h.mono fun _ _ h => by obtain ⟨h1, n, rfl⟩ := h; exact ⟨h1, belowDN _ _⟩

set_option maxRecDepth 100000 in
set_option maxHeartbeats 1000000 in
theorem vadd_any (a b : V3) (ha : a.ok) (hb : b.ok) (w : World) : Calls Try.prog 29 #[vecV a, vecV b] w (VTo (vecV (map2 addF a b)) w) := by
  obtain ⟨ax, ay, az⟩ := a
  obtain ⟨bx, by', bz⟩ := b
  have h2 := alloc3_2 w (box3 ⟨ax, ay, az⟩) (box3 ⟨bx, by', bz⟩) (box3 ⟨0, 0, 0⟩)
  have hBW := alloc3_below w (box3 ⟨ax, ay, az⟩) (box3 ⟨bx, by', bz⟩) (box3 ⟨0, 0, 0⟩)
  have c1 := fun w => each_any 22 #[] addF _ _ ha hb w (enters Try.func22 (by kernel_rfl) rfl) (fun x y w' hx hy _ => by have h := same_below (add_any x y hx.1 hx.2 hy.1 hy.2 w'); simp only [Array.append_empty]; exact h)
  have H2 := Lib.hid h2
  have BW := Lib.hid hBW
  have C1 := Lib.hid c1
  clear h2 hBW c1 ha hb
  go_enter Try.func29, Try.ntmps29
  go_wp2_with fail
  refine (C1.out _).mono ?_
  rintro e w1 ⟨rfl, hb1⟩
  have HR1 := Lib.hid ((hb1.block _ (by simp)).trans H2.out)
  have HB1 := Lib.hid (BW.out.trans (hb1.mono BW.out.size))
  clear hb1
  have h3 := setRow_heap w1 (w.heap.size + 1 + 1) _ #[.int .i64 (addF ax bx), .int .i64 (addF ay by'), .int .i64 (addF az bz)] _ _ HR1.out
  have hb3 := below_setRow HB1.out (show w.heap.size ≤ w.heap.size + 1 + 1 by omega) #[.int .i64 (addF ax bx), .int .i64 (addF ay by'), .int .i64 (addF az bz)]
  have H3 := Lib.hid h3
  have HB3 := Lib.hid hb3
  clear h3 hb3
  go_wp2_with (with_reducible refine store_vec rfl (.tmp 4) (.tmp 7) rfl rfl (w.heap.size + 1 + 1) (addF ax bx) (addF ay by') (addF az bz) rfl rfl _ _ _ HR1.out ?_)
  generalize w1.setRow (w.heap.size + 1 + 1) #[.int .i64 (addF ax bx), .int .i64 (addF ay by'), .int .i64 (addF az bz)] = w3 at *
  refine bodyPost_ret (results_cell_row rfl _ _ (w.heap.size + 1 + 1) 23 _ _ _ rfl H3.out Try.underlying23 rfl vec_size) rfl ?_
  exact ⟨rfl, HB3.out⟩

set_option maxRecDepth 100000 in
set_option maxHeartbeats 1000000 in
theorem vsub_any (a b : V3) (ha : a.ok) (hb : b.ok) (w : World) : Calls Try.prog 26 #[vecV a, vecV b] w (VTo (vecV (map2 subF a b)) w) := by
  obtain ⟨ax, ay, az⟩ := a
  obtain ⟨bx, by', bz⟩ := b
  have h2 := alloc3_2 w (box3 ⟨ax, ay, az⟩) (box3 ⟨bx, by', bz⟩) (box3 ⟨0, 0, 0⟩)
  have hBW := alloc3_below w (box3 ⟨ax, ay, az⟩) (box3 ⟨bx, by', bz⟩) (box3 ⟨0, 0, 0⟩)
  have c1 := fun w => each_any 28 #[] subF _ _ ha hb w (enters Try.func28 (by kernel_rfl) rfl) (fun x y w' hx hy _ => by have h := same_below (sub_any x y hx.1 hx.2 hy.1 hy.2 w'); simp only [Array.append_empty]; exact h)
  have H2 := Lib.hid h2
  have BW := Lib.hid hBW
  have C1 := Lib.hid c1
  clear h2 hBW c1 ha hb
  go_enter Try.func26, Try.ntmps26
  go_wp2_with fail
  refine (C1.out _).mono ?_
  rintro e w1 ⟨rfl, hb1⟩
  have HR1 := Lib.hid ((hb1.block _ (by simp)).trans H2.out)
  have HB1 := Lib.hid (BW.out.trans (hb1.mono BW.out.size))
  clear hb1
  have h3 := setRow_heap w1 (w.heap.size + 1 + 1) _ #[.int .i64 (subF ax bx), .int .i64 (subF ay by'), .int .i64 (subF az bz)] _ _ HR1.out
  have hb3 := below_setRow HB1.out (show w.heap.size ≤ w.heap.size + 1 + 1 by omega) #[.int .i64 (subF ax bx), .int .i64 (subF ay by'), .int .i64 (subF az bz)]
  have H3 := Lib.hid h3
  have HB3 := Lib.hid hb3
  clear h3 hb3
  go_wp2_with (with_reducible refine store_vec rfl (.tmp 4) (.tmp 7) rfl rfl (w.heap.size + 1 + 1) (subF ax bx) (subF ay by') (subF az bz) rfl rfl _ _ _ HR1.out ?_)
  generalize w1.setRow (w.heap.size + 1 + 1) #[.int .i64 (subF ax bx), .int .i64 (subF ay by'), .int .i64 (subF az bz)] = w3 at *
  refine bodyPost_ret (results_cell_row rfl _ _ (w.heap.size + 1 + 1) 23 _ _ _ rfl H3.out Try.underlying23 rfl vec_size) rfl ?_
  exact ⟨rfl, HB3.out⟩

set_option maxRecDepth 100000 in
set_option maxHeartbeats 1000000 in
theorem vmul_any (a b : V3) (ha : a.ok) (hb : b.ok) (w : World) : Calls Try.prog 71 #[vecV a, vecV b] w (VTo (vecV (map2 mulF a b)) w) := by
  obtain ⟨ax, ay, az⟩ := a
  obtain ⟨bx, by', bz⟩ := b
  have h2 := alloc3_2 w (box3 ⟨ax, ay, az⟩) (box3 ⟨bx, by', bz⟩) (box3 ⟨0, 0, 0⟩)
  have hBW := alloc3_below w (box3 ⟨ax, ay, az⟩) (box3 ⟨bx, by', bz⟩) (box3 ⟨0, 0, 0⟩)
  have c1 := fun w => each_any 23 #[] mulF _ _ ha hb w (enters Try.func23 (by kernel_rfl) rfl) (fun x y w' hx hy _ => by have h := same_below (mul_any x y hx.1 hx.2 hy.1 hy.2 w'); simp only [Array.append_empty]; exact h)
  have H2 := Lib.hid h2
  have BW := Lib.hid hBW
  have C1 := Lib.hid c1
  clear h2 hBW c1 ha hb
  go_enter Try.func71, Try.ntmps71
  go_wp2_with fail
  refine (C1.out _).mono ?_
  rintro e w1 ⟨rfl, hb1⟩
  have HR1 := Lib.hid ((hb1.block _ (by simp)).trans H2.out)
  have HB1 := Lib.hid (BW.out.trans (hb1.mono BW.out.size))
  clear hb1
  have h3 := setRow_heap w1 (w.heap.size + 1 + 1) _ #[.int .i64 (mulF ax bx), .int .i64 (mulF ay by'), .int .i64 (mulF az bz)] _ _ HR1.out
  have hb3 := below_setRow HB1.out (show w.heap.size ≤ w.heap.size + 1 + 1 by omega) #[.int .i64 (mulF ax bx), .int .i64 (mulF ay by'), .int .i64 (mulF az bz)]
  have H3 := Lib.hid h3
  have HB3 := Lib.hid hb3
  clear h3 hb3
  go_wp2_with (with_reducible refine store_vec rfl (.tmp 4) (.tmp 7) rfl rfl (w.heap.size + 1 + 1) (mulF ax bx) (mulF ay by') (mulF az bz) rfl rfl _ _ _ HR1.out ?_)
  generalize w1.setRow (w.heap.size + 1 + 1) #[.int .i64 (mulF ax bx), .int .i64 (mulF ay by'), .int .i64 (mulF az bz)] = w3 at *
  refine bodyPost_ret (results_cell_row rfl _ _ (w.heap.size + 1 + 1) 23 _ _ _ rfl H3.out Try.underlying23 rfl vec_size) rfl ?_
  exact ⟨rfl, HB3.out⟩

end Go.Proofs.Ytnfbeldiideonaa.VecV
