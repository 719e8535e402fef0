import Derived.Test.YtdaokkgenfpmhaaRows
import Derived.Test.YtdaokkgenfpmhaaFa
import Derived.Test.YtdaokkgenfpmhaaQu
import Derived.Deep.CutBlock
/- Points in the world: what all walks of points share. -/
set_option linter.unusedVariables false
set_option linter.unusedSimpArgs false
namespace Go.Proofs.Ytdaokkgenfpmhaa.VecW
open Go.RowKit Go.Sort FixM Base Num Qb Qt

/-- a point, a way, a colour -/
structure V3 where
  x : Int
  y : Int
  z : Int
def V3.ok (a : V3) : Prop := In a.x ∧ In a.y ∧ In a.z
abbrev vecV (a : V3) : Value := .agg #[.int .i64 a.x, .int .i64 a.y, .int .i64 a.z]
def map2 (F : Int → Int → Int) (a b : V3) : V3 := ⟨F a.x b.x, F a.y b.y, F a.z b.z⟩

abbrev box3 (a : V3) : Obj := .cells #[.int .i64 a.x, .int .i64 a.y, .int .i64 a.z] 23
theorem cells3 {W : World} {g : Nat} {T : TypeId} {p q r : Value} (h : W.heap[g]? = some (.cells #[p, q, r] T)) :
    (∀ d os, (grow (redrawn W d) os).cell? ⟨g, 0, none⟩ = some p) ∧ (∀ d os, (grow (redrawn W d) os).cell? ⟨g, 1, none⟩ = some q) ∧ (∀ d os, (grow (redrawn W d) os).cell? ⟨g, 2, none⟩ = some r) := by
  refine ⟨fun d os => ?_, fun d os => ?_, fun d os => ?_⟩
  · exact cell_regrown (by rw [cell_of_row W g 0 _ _ _ h]; rfl) d os
  · exact cell_regrown (by rw [cell_of_row W g 1 _ _ _ h]; rfl) d os
  · exact cell_regrown (by rw [cell_of_row W g 2 _ _ _ h]; rfl) d os
theorem vec_size : (Try.prog.info? 23).map (·.size) = some 3 := by kernel_rfl
theorem ones3 (a b c : Int) : ∀ v ∈ (#[Value.int .i64 a, .int .i64 b, .int .i64 c] : Array Value).toList, v.oneCell' = true := by
  intro v hv; simp at hv; rcases hv with rfl | rfl | rfl <;> rfl
theorem store_vec {ops : Array Oper} {rest : List Oper} {o : Oper} {a : Act} {w : World} {Q : Exit → Act → World → Prop} (hgd : o.guard = none) (x y : Operand) (ho : o.op = .store 23 x y) (hd : o.dst = none)
    (g : Nat) (A B C : Int) (hx : a.eval x = .pointer (some ⟨g, 0, none⟩)) (hy : a.eval y = .agg #[.int .i64 A, .int .i64 B, .int .i64 C]) (p q r : Value) (hg : w.heap[g]? = some (.cells #[p, q, r] 23))
    (h : wpList Try.prog ops Q rest a (w.setRow g #[.int .i64 A, .int .i64 B, .int .i64 C])) : wpList Try.prog ops Q (o :: rest) a w :=
  wpList_store_arr hgd 23 x y ho g _ hx hy 23 _ hg vec_size rfl (ones3 _ _ _) hd h
/-- the blocks behind two boxes and a result -/
theorem alloc3_0 (w : World) (o0 o1 o2 : Obj) : (((w.alloc o0).alloc o1).alloc o2).heap[w.heap.size]? = some o0 := by
  rw [heap_alloc_old _ _ (by simp; omega), heap_alloc_old _ _ (by simp)]; exact heap_alloc_new _ _
theorem alloc3_1 (w : World) (o0 o1 o2 : Obj) : (((w.alloc o0).alloc o1).alloc o2).heap[w.heap.size + 1]? = some o1 := by
  rw [heap_alloc_old _ _ (by simp)]; have := heap_alloc_new (w.alloc o0) o1; simpa using this
theorem alloc3_2 (w : World) (o0 o1 o2 : Obj) : (((w.alloc o0).alloc o1).alloc o2).heap[w.heap.size + 1 + 1]? = some o2 := by
  have := heap_alloc_new ((w.alloc o0).alloc o1) o2; simpa using this
theorem enters {f : FuncId} {fn : Func} {c : Code} (hf : Try.prog.funcs[f]? = some fn) (hname : (fn.name == "runtime.NumGoroutine") = false) (hb : fn.body = some c) (args : Array Value) (w : World) : (callFunc f args).run Try.prog w = .ok (.enter f args) w := by
  have h1 : fn.name ≠ "runtime.NumGoroutine" := by simpa using hname
  simp [callFunc, hf, h1, hb, mark]
theorem alloc3_below (w : World) (o0 o1 o2 : Obj) : Below w.heap.size w (((w.alloc o0).alloc o1).alloc o2) := ((ext_alloc w o0).alloc (by simp) o1).alloc (by simp; omega) o2

end Go.Proofs.Ytdaokkgenfpmhaa.VecW
namespace Go.Proofs.Ytdaokkgenfpmhaa.VecV
open Go.RowKit Go.Sort FixM Base Num Qb Qt VecW
def VTo (v : Value) (w : World) (e : Ending) (w' : World) : Prop := e = .returned v ∧ Below w.heap.size w w'
theorem same_below {f : FuncId} {args : Array Value} {w : World} {v : Value} (h : Calls Try.prog f args w (fun e w' => e = .returned v ∧ w = w')) : Calls Try.prog f args w (VTo v w) :=
  h.mono fun _ _ h => ⟨h.1, by rw [← h.2]; exact Below.refl _ _⟩
end Go.Proofs.Ytdaokkgenfpmhaa.VecV
namespace Go.Proofs.Ytdaokkgenfpmhaa.VecU
open Go.RowKit Go.Sort FixM Base Num Qb Qt VecW VecV
theorem alloc2_0 (w : World) (o0 o1 : Obj) : ((w.alloc o0).alloc o1).heap[w.heap.size]? = some o0 := by
  rw [heap_alloc_old _ _ (by simp)]; exact heap_alloc_new _ _
theorem alloc2_1 (w : World) (o0 o1 : Obj) : ((w.alloc o0).alloc o1).heap[w.heap.size + 1]? = some o1 := by
  have := heap_alloc_new (w.alloc o0) o1; simpa using this
theorem alloc2_below (w : World) (o0 o1 : Obj) : Below w.heap.size w ((w.alloc o0).alloc o1) := (ext_alloc w o0).alloc (by simp) o1
end Go.Proofs.Ytdaokkgenfpmhaa.VecU
namespace Go.Proofs.Ytdaokkgenfpmhaa.LightQ
open Go.RowKit Go.Sort FixM Base Num Qb Qt VecW VecV VecU
theorem put3_row (w : World) (a b c : Int) : ((w.alloc (box3 ⟨0, 0, 0⟩)).setRow w.heap.size #[.int .i64 a, .int .i64 b, .int .i64 c]).heap[w.heap.size]? = some (box3 ⟨a, b, c⟩) :=
  setRow_heap (w.alloc (box3 ⟨0, 0, 0⟩)) w.heap.size _ #[.int .i64 a, .int .i64 b, .int .i64 c] _ _ (heap_alloc_new _ _)
theorem put3_ext (w : World) (a b c : Int) : Below w.heap.size w ((w.alloc (box3 ⟨0, 0, 0⟩)).setRow w.heap.size #[.int .i64 a, .int .i64 b, .int .i64 c]) :=
  below_setRow (ext_alloc w (box3 ⟨0, 0, 0⟩)) (Nat.le_refl _) _
theorem cells_now {W : World} {g : Nat} {T : TypeId} {p q r : Value} (h : W.heap[g]? = some (.cells #[p, q, r] T)) :
    W.cell? ⟨g, 0, none⟩ = some p ∧ W.cell? ⟨g, 1, none⟩ = some q ∧ W.cell? ⟨g, 2, none⟩ = some r := by
  refine ⟨?_, ?_, ?_⟩
  · rw [cell_of_row W g 0 _ _ _ h]; rfl
  · rw [cell_of_row W g 1 _ _ _ h]; rfl
  · rw [cell_of_row W g 2 _ _ _ h]; rfl
end Go.Proofs.Ytdaokkgenfpmhaa.LightQ
namespace Go.Proofs.Ytdaokkgenfpmhaa.LightC
open Go.RowKit Go.Sort FixM Base Num Qb Qt VecW VecV VecU
theorem cell_all {W : World} {g : Nat} {T : TypeId} {row : Array Value} (h : W.heap[g]? = some (.cells row T)) (k : Nat) (v : Value) (hv : row[k]? = some v) : ∀ d os, (grow (redrawn W d) os).cell? ⟨g, k, none⟩ = some v :=
  fun d os => cell_regrown (by rw [cell_of_row W g k _ _ _ h]; exact hv) d os
end Go.Proofs.Ytdaokkgenfpmhaa.LightC

/- The walks of package vec. -/
set_option linter.unusedVariables false
set_option linter.unusedSimpArgs false
namespace Go.Proofs.Ytdaokkgenfpmhaa.VecW
open Go.RowKit Go.Sort FixM Base Num FixW FixV FixU FixT FixS FixO FixN FixK FixP Qb Qt

set_option maxRecDepth 100000 in
set_option maxHeartbeats 2000000 in
theorem each_any (k : Nat) (cap : Array Value) (F : Int → Int → Int) (a b : V3) (ha : a.ok) (hb : b.ok) (w : World)
    (hen : ∀ args w, (callFunc k args).run Try.prog w = .ok (.enter k args) w)
    (hF : ∀ x y w', In x → In y → Below w.heap.size w w' → Calls Try.prog k (#[.int .i64 x, .int .i64 y] ++ cap) w' (fun e w'' => e = .returned (.int .i64 (F x y)) ∧ Below w'.heap.size w' w'')) :
    Calls Try.prog 63 #[vecV a, vecV b, .func (.func k) #[] cap] w fun e w' => e = .returned (.agg #[.int .i64 (F a.x b.x), .int .i64 (F a.y b.y), .int .i64 (F a.z b.z)]) ∧ Below w.heap.size w w' := by
  obtain ⟨ax, ay, az⟩ := a
  obtain ⟨bx, by', bz⟩ := b
  obtain ⟨ha1, ha2, ha3⟩ := ha
  obtain ⟨hb1, hb2, hb3⟩ := hb
  obtain ⟨W, hW⟩ : ∃ W, W = ((w.alloc (box3 ⟨ax, ay, az⟩)).alloc (box3 ⟨bx, by', bz⟩)).alloc (box3 ⟨0, 0, 0⟩) := ⟨_, rfl⟩
  have h0 : W.heap[w.heap.size]? = some (box3 ⟨ax, ay, az⟩) := by rw [hW]; exact alloc3_0 _ _ _ _
  have h1 : W.heap[w.heap.size + 1]? = some (box3 ⟨bx, by', bz⟩) := by rw [hW]; exact alloc3_1 _ _ _ _
  have h2 : W.heap[w.heap.size + 1 + 1]? = some (box3 ⟨0, 0, 0⟩) := by rw [hW]; exact alloc3_2 _ _ _ _
  have hBW : Below w.heap.size w W := by rw [hW]; exact alloc3_below _ _ _ _
  have f0 := qb (P := Try.prog) (W := W) (f := k) (fun w2 hb => hF ax bx w2 ha1 hb1 (hBW.trans (hb.mono hBW.size)))
  have f1 := qb (P := Try.prog) (W := W) (f := k) (fun w2 hb => hF ay by' w2 ha2 hb2 (hBW.trans (hb.mono hBW.size)))
  have f2 := qb (P := Try.prog) (W := W) (f := k) (fun w2 hb => hF az bz w2 ha3 hb3 (hBW.trans (hb.mono hBW.size)))
  obtain ⟨c0, c1, c2⟩ := cells3 h0
  obtain ⟨d0, d1, d2⟩ := cells3 h1
  have F0 := Lib.hid f0
  have F1 := Lib.hid f1
  have F2 := Lib.hid f2
  have H2 := Lib.hid h2
  have BW := Lib.hid hBW
  have HWW := Lib.hid hW
  clear hF f0 f1 f2 h0 h1 h2 hBW hW ha1 ha2 ha3 hb1 hb2 hb3
  go_enter Try.func63, Try.ntmps63
  go_wp2_with fail
  rw [← HWW.out]
  refine wp_region_below_tail 19 (by kernel_rfl) (by kernel_rfl) ?_
  simp only [List.take_succ_cons, List.take_zero, List.drop_succ_cons, List.drop_zero]
  repeat (go_big_quiet_step (first | (with_reducible exact F0.out _ _) | (with_reducible exact F1.out _ _) | (with_reducible exact F2.out _ _)))
  refine wpQuiet_nil ?_
  rintro _ ⟨⟨dq, osq⟩, rfl⟩
  refine wpList_store_arr rfl 23 (.tmp 6) (.tmp 25) rfl (w.heap.size + 1 + 1) #[.int .i64 (F ax bx), .int .i64 (F ay by'), .int .i64 (F az bz)] rfl rfl 23 _ (heap_regrown H2.out dq osq) vec_size rfl (ones3 _ _ _) rfl ?_
  have hb2 : Below w.heap.size w (grow (redrawn W dq) osq) := BW.out.trans ((below_regrown W dq osq).mono BW.out.size)
  have h3 := setRow_heap (grow (redrawn W dq) osq) (w.heap.size + 1 + 1) _ #[.int .i64 (F ax bx), .int .i64 (F ay by'), .int .i64 (F az bz)] _ _ (heap_regrown H2.out dq osq)
  have hb3 := below_setRow hb2 (show w.heap.size ≤ w.heap.size + 1 + 1 by omega) #[.int .i64 (F ax bx), .int .i64 (F ay by'), .int .i64 (F az bz)]
  have H3 := Lib.hid h3
  have HB3 := Lib.hid hb3
  clear h3 hb3 hb2 c0 c1 c2 d0 d1 d2
  generalize (grow (redrawn W dq) osq).setRow (w.heap.size + 1 + 1) #[.int .i64 (F ax bx), .int .i64 (F ay by'), .int .i64 (F az bz)] = w3 at *
  go_wp2_with fail
  refine bodyPost_ret (results_cell_row rfl _ _ (w.heap.size + 1 + 1) 23 _ _ _ rfl H3.out Try.underlying23 rfl vec_size) rfl ?_
  exact ⟨rfl, HB3.out⟩
end Go.Proofs.Ytdaokkgenfpmhaa.VecW

/- The walks of package vec: what goes number by number. -/
set_option linter.unusedVariables false
set_option linter.unusedSimpArgs false
namespace Go.Proofs.Ytdaokkgenfpmhaa.VecV
open Go.RowKit Go.Sort FixM Base Num FixW FixV FixU FixT FixS FixO FixN FixK FixP Qb Qt VecW

theorem drawn_to {f : FuncId} {args : Array Value} {w : World} {v : Value} (h : Calls Try.prog f args w (Drawn v w)) : Calls Try.prog f args w (VTo v w) :=
  h.mono fun _ _ h => by obtain ⟨h1, n, rfl⟩ := h; exact ⟨h1, belowDN _ _⟩

set_option maxRecDepth 100000 in
set_option maxHeartbeats 1000000 in
theorem vsub_any (a b : V3) (ha : a.ok) (hb : b.ok) (w : World) : Calls Try.prog 46 #[vecV a, vecV b] w (VTo (vecV (map2 subF a b)) w) := by
  obtain ⟨ax, ay, az⟩ := a
  obtain ⟨bx, by', bz⟩ := b
  have h2 := alloc3_2 w (box3 ⟨ax, ay, az⟩) (box3 ⟨bx, by', bz⟩) (box3 ⟨0, 0, 0⟩)
  have hBW := alloc3_below w (box3 ⟨ax, ay, az⟩) (box3 ⟨bx, by', bz⟩) (box3 ⟨0, 0, 0⟩)
  have c1 := fun w => each_any 34 #[] subF _ _ ha hb w (enters Try.func34 (by kernel_rfl) rfl) (fun x y w' hx hy _ => by have h := same_below (sub_any x y hx.1 hx.2 hy.1 hy.2 w'); simp only [Array.append_empty]; exact h)
  have H2 := Lib.hid h2
  have BW := Lib.hid hBW
  have C1 := Lib.hid c1
  clear h2 hBW c1 ha hb
  go_enter Try.func46, Try.ntmps46
  go_wp2_with fail
  refine (C1.out _).mono ?_
  rintro e w1 ⟨rfl, hb1⟩
  have HR1 := Lib.hid ((hb1.block _ (by simp)).trans H2.out)
  have HB1 := Lib.hid (BW.out.trans (hb1.mono BW.out.size))
  clear hb1
  have h3 := setRow_heap w1 (w.heap.size + 1 + 1) _ #[.int .i64 (subF ax bx), .int .i64 (subF ay by'), .int .i64 (subF az bz)] _ _ HR1.out
  have hb3 := below_setRow HB1.out (show w.heap.size ≤ w.heap.size + 1 + 1 by omega) #[.int .i64 (subF ax bx), .int .i64 (subF ay by'), .int .i64 (subF az bz)]
  have H3 := Lib.hid h3
  have HB3 := Lib.hid hb3
  clear h3 hb3
  go_wp2_with (with_reducible refine store_vec rfl (.tmp 4) (.tmp 7) rfl rfl (w.heap.size + 1 + 1) (subF ax bx) (subF ay by') (subF az bz) rfl rfl _ _ _ HR1.out ?_)
  generalize w1.setRow (w.heap.size + 1 + 1) #[.int .i64 (subF ax bx), .int .i64 (subF ay by'), .int .i64 (subF az bz)] = w3 at *
  refine bodyPost_ret (results_cell_row rfl _ _ (w.heap.size + 1 + 1) 23 _ _ _ rfl H3.out Try.underlying23 rfl vec_size) rfl ?_
  exact ⟨rfl, HB3.out⟩

set_option maxRecDepth 100000 in
set_option maxHeartbeats 1000000 in
theorem vmul_any (a b : V3) (ha : a.ok) (hb : b.ok) (w : World) : Calls Try.prog 64 #[vecV a, vecV b] w (VTo (vecV (map2 mulF a b)) w) := by
  obtain ⟨ax, ay, az⟩ := a
  obtain ⟨bx, by', bz⟩ := b
  have h2 := alloc3_2 w (box3 ⟨ax, ay, az⟩) (box3 ⟨bx, by', bz⟩) (box3 ⟨0, 0, 0⟩)
  have hBW := alloc3_below w (box3 ⟨ax, ay, az⟩) (box3 ⟨bx, by', bz⟩) (box3 ⟨0, 0, 0⟩)
  have c1 := fun w => each_any 60 #[] mulF _ _ ha hb w (enters Try.func60 (by kernel_rfl) rfl) (fun x y w' hx hy _ => by have h := same_below (mul_any x y hx.1 hx.2 hy.1 hy.2 w'); simp only [Array.append_empty]; exact h)
  have H2 := Lib.hid h2
  have BW := Lib.hid hBW
  have C1 := Lib.hid c1
  clear h2 hBW c1 ha hb
  go_enter Try.func64, Try.ntmps64
  go_wp2_with fail
  refine (C1.out _).mono ?_
  rintro e w1 ⟨rfl, hb1⟩
  have HR1 := Lib.hid ((hb1.block _ (by simp)).trans H2.out)
  have HB1 := Lib.hid (BW.out.trans (hb1.mono BW.out.size))
  clear hb1
  have h3 := setRow_heap w1 (w.heap.size + 1 + 1) _ #[.int .i64 (mulF ax bx), .int .i64 (mulF ay by'), .int .i64 (mulF az bz)] _ _ HR1.out
  have hb3 := below_setRow HB1.out (show w.heap.size ≤ w.heap.size + 1 + 1 by omega) #[.int .i64 (mulF ax bx), .int .i64 (mulF ay by'), .int .i64 (mulF az bz)]
  have H3 := Lib.hid h3
  have HB3 := Lib.hid hb3
  clear h3 hb3
  go_wp2_with (with_reducible refine store_vec rfl (.tmp 4) (.tmp 7) rfl rfl (w.heap.size + 1 + 1) (mulF ax bx) (mulF ay by') (mulF az bz) rfl rfl _ _ _ HR1.out ?_)
  generalize w1.setRow (w.heap.size + 1 + 1) #[.int .i64 (mulF ax bx), .int .i64 (mulF ay by'), .int .i64 (mulF az bz)] = w3 at *
  refine bodyPost_ret (results_cell_row rfl _ _ (w.heap.size + 1 + 1) 23 _ _ _ rfl H3.out Try.underlying23 rfl vec_size) rfl ?_
  exact ⟨rfl, HB3.out⟩

end Go.Proofs.Ytdaokkgenfpmhaa.VecV

/- The walks of package vec: the rest. -/
set_option linter.unusedVariables false
set_option linter.unusedSimpArgs false
namespace Go.Proofs.Ytdaokkgenfpmhaa.VecU
open Go.RowKit Go.Sort FixM Base Num FixW FixV FixU FixT FixS FixO FixN FixK FixP Qb Qt VecW VecV 

def map1 (F : Int → Int) (a : V3) : V3 := ⟨F a.x, F a.y, F a.z⟩
def dotF (a b : V3) : Int := addF (addF (mulF a.x b.x) (mulF a.y b.y)) (mulF a.z b.z)
def crossF (a b : V3) : V3 := ⟨subF (mulF a.y b.z) (mulF a.z b.y), subF (mulF a.z b.x) (mulF a.x b.z), subF (mulF a.x b.y) (mulF a.y b.x)⟩
def lenF (a : V3) : Int := sqrtF (dotF a a)
def unitF (a : V3) : V3 := if lenF a = 0 then ⟨0, 0, 0⟩ else map1 (fun x => divF x (lenF a)) a
def bendF (d n : V3) : V3 := map2 subF d (map1 (fun x => mulF x (addF (dotF d n) (dotF d n))) n)
theorem in_add (a b : Int) : In (addF a b) := clamp_in _
theorem in_sub (a b : Int) : In (subF a b) := clamp_in _
theorem in_mul (a b : Int) : In (mulF a b) := clamp_in _
theorem in_neg (a : Int) : In (negF a) := clamp_in _
theorem in_div (a b : Int) : In (divF a b) := by
  unfold divF
  split
  · unfold In; split <;> (try split) <;> omega
  · split <;> exact clamp_in _
theorem in_dot (a b : V3) : In (dotF a b) := clamp_in _
theorem in_len (a : V3) : In (lenF a) := by have := sqrtF_in (dotF a a) (in_dot a a).2; unfold In lenF; omega
theorem ok_map1 {F : Int → Int} (h : ∀ x, In (F x)) (a : V3) : (map1 F a).ok := ⟨h _, h _, h _⟩
theorem ok_map2 {F : Int → Int → Int} (h : ∀ x y, In (F x y)) (a b : V3) : (map2 F a b).ok := ⟨h _ _, h _ _, h _ _⟩
theorem ok_zero : (⟨0, 0, 0⟩ : V3).ok := by unfold V3.ok In; simp
theorem ok_unit (a : V3) : (unitF a).ok := by unfold unitF; split; exact ok_zero; exact ok_map1 (fun x => in_div _ _) a
theorem ok_cross (a b : V3) : (crossF a b).ok := ⟨in_sub _ _, in_sub _ _, in_sub _ _⟩
theorem ok_bend (d n : V3) : (bendF d n).ok := ok_map2 in_sub _ _
/-- a call's facts, seen from a world -/
theorem qa (x y : Int) (hx : In x) (hy : In y) (W : World) (d : Nat) (os : Array Obj) : Calls Try.prog 38 #[.int .i64 x, .int .i64 y] (grow (redrawn W d) os) (fun e w'' => e = .returned (.int .i64 (addF x y)) ∧ ∃ p : Regrown, w'' = grow (redrawn W p.d) p.os) := qs (fun w => add_any x y hx.1 hx.2 hy.1 hy.2 w) d os
theorem qm (x y : Int) (hx : In x) (hy : In y) (W : World) (d : Nat) (os : Array Obj) : Calls Try.prog 60 #[.int .i64 x, .int .i64 y] (grow (redrawn W d) os) (fun e w'' => e = .returned (.int .i64 (mulF x y)) ∧ ∃ p : Regrown, w'' = grow (redrawn W p.d) p.os) := qs (fun w => mul_any x y hx.1 hx.2 hy.1 hy.2 w) d os
theorem qsub (x y : Int) (hx : In x) (hy : In y) (W : World) (d : Nat) (os : Array Obj) : Calls Try.prog 34 #[.int .i64 x, .int .i64 y] (grow (redrawn W d) os) (fun e w'' => e = .returned (.int .i64 (subF x y)) ∧ ∃ p : Regrown, w'' = grow (redrawn W p.d) p.os) := qs (fun w => sub_any x y hx.1 hx.2 hy.1 hy.2 w) d os

set_option maxRecDepth 100000 in
set_option maxHeartbeats 2000000 in
theorem vdot_any (a b : V3) (ha : a.ok) (hb : b.ok) (w : World) : Calls Try.prog 48 #[vecV a, vecV b] w (VTo (.int .i64 (dotF a b)) w) := by
  have C1 := Lib.hid (fun w => vmul_any a b ha hb w)
  obtain ⟨ax, ay, az⟩ := a
  obtain ⟨bx, by', bz⟩ := b
  have BW := Lib.hid (alloc2_below w (box3 ⟨ax, ay, az⟩) (box3 ⟨bx, by', bz⟩))
  clear ha hb
  go_enter Try.func48, Try.ntmps48
  go_wp2_with fail
  refine (C1.out _).mono ?_
  rintro e w1 ⟨rfl, hb1⟩
  have HB1 := Lib.hid (BW.out.trans (hb1.mono BW.out.size))
  clear hb1
  obtain ⟨m1, hm1⟩ : ∃ m, m = mulF ax bx := ⟨_, rfl⟩
  obtain ⟨m2, hm2⟩ : ∃ m, m = mulF ay by' := ⟨_, rfl⟩
  obtain ⟨m3, hm3⟩ : ∃ m, m = mulF az bz := ⟨_, rfl⟩
  have i1 : In m1 := by rw [hm1]; exact in_mul _ _
  have i2 : In m2 := by rw [hm2]; exact in_mul _ _
  have i3 : In m3 := by rw [hm3]; exact in_mul _ _
  have HM := Lib.hid (show dotF ⟨ax, ay, az⟩ ⟨bx, by', bz⟩ = addF (addF m1 m2) m3 by rw [hm1, hm2, hm3]; rfl)
  simp only [vecV, map2, ← hm1, ← hm2, ← hm3]
  clear hm1 hm2 hm3
  go_wp2_with (with_reducible refine store_vec rfl (.tmp 5) (.tmp 8) rfl rfl w1.heap.size m1 m2 m3 rfl rfl _ _ _ (heap_alloc_new _ _) ?_)
  have hp := setRow_heap _ w1.heap.size _ #[.int .i64 m1, .int .i64 m2, .int .i64 m3] _ _ (heap_alloc_new w1 (box3 ⟨0, 0, 0⟩))
  have hpb := below_setRow (HB1.out.alloc HB1.out.size (box3 ⟨0, 0, 0⟩)) HB1.out.size #[.int .i64 m1, .int .i64 m2, .int .i64 m3]
  generalize (w1.alloc _).setRow w1.heap.size _ = W at *
  obtain ⟨c0, c1, c2⟩ := cells3 hp
  have q1 := qa m1 m2 i1 i2 W
  have q2 := qa (addF m1 m2) m3 (in_add _ _) i3 W
  have BP := Lib.hid hpb
  have Q1 := Lib.hid q1
  clear q1
  have Q2 := Lib.hid q2
  clear q2
  clear hp hpb i1 i2 i3
  refine wp_region_quiet_below (by kernel_rfl) (by kernel_rfl) ?_
  repeat (go_big_quiet_step (first | (with_reducible exact Q1.out _ _) | (with_reducible exact Q2.out _ _)))
  refine wpQuiet_nil ?_
  rintro _ ⟨⟨dq, osq⟩, rfl⟩
  have HF := Lib.hid (BP.out.trans ((below_regrown W dq osq).mono BP.out.size))
  go_wp2_with fail
  go_ret
  exact ⟨ret_int HM.out.symm, HF.out⟩

set_option maxRecDepth 100000 in
set_option maxHeartbeats 2000000 in
theorem vcross_any (a b : V3) (ha : a.ok) (hb : b.ok) (w : World) : Calls Try.prog 47 #[vecV a, vecV b] w (VTo (vecV (crossF a b)) w) := by
  obtain ⟨ax, ay, az⟩ := a
  obtain ⟨bx, by', bz⟩ := b
  obtain ⟨ha1, ha2, ha3⟩ := ha
  obtain ⟨hb1, hb2, hb3⟩ := hb
  obtain ⟨W, hW⟩ : ∃ W, W = ((w.alloc (box3 ⟨ax, ay, az⟩)).alloc (box3 ⟨bx, by', bz⟩)).alloc (box3 ⟨0, 0, 0⟩) := ⟨_, rfl⟩
  have h0 : W.heap[w.heap.size]? = some (box3 ⟨ax, ay, az⟩) := by rw [hW]; exact alloc3_0 _ _ _ _
  have h1 : W.heap[w.heap.size + 1]? = some (box3 ⟨bx, by', bz⟩) := by rw [hW]; exact alloc3_1 _ _ _ _
  have h2 : W.heap[w.heap.size + 1 + 1]? = some (box3 ⟨0, 0, 0⟩) := by rw [hW]; exact alloc3_2 _ _ _ _
  have hBW : Below w.heap.size w W := by rw [hW]; exact alloc3_below _ _ _ _
  obtain ⟨c0, c1, c2⟩ := cells3 h0
  obtain ⟨d0, d1, d2⟩ := cells3 h1
  have q1 := qm ay bz ha2 hb3 W
  have q2 := qm az by' ha3 hb2 W
  have q3 := qm az bx ha3 hb1 W
  have q4 := qm ax bz ha1 hb3 W
  have q5 := qm ax by' ha1 hb2 W
  have q6 := qm ay bx ha2 hb1 W
  have q7 := qsub (mulF ay bz) (mulF az by') (in_mul _ _) (in_mul _ _) W
  have q8 := qsub (mulF az bx) (mulF ax bz) (in_mul _ _) (in_mul _ _) W
  have q9 := qsub (mulF ax by') (mulF ay bx) (in_mul _ _) (in_mul _ _) W
  have H2 := Lib.hid h2
  have HBW := Lib.hid hBW
  have HWW := Lib.hid hW
  have Q1 := Lib.hid q1
  clear q1
  have Q2 := Lib.hid q2
  clear q2
  have Q3 := Lib.hid q3
  clear q3
  have Q4 := Lib.hid q4
  clear q4
  have Q5 := Lib.hid q5
  clear q5
  have Q6 := Lib.hid q6
  clear q6
  have Q7 := Lib.hid q7
  clear q7
  have Q8 := Lib.hid q8
  clear q8
  have Q9 := Lib.hid q9
  clear q9
  clear h0 h1 h2 hBW hW ha1 ha2 ha3 hb1 hb2 hb3
  go_enter Try.func47, Try.ntmps47
  go_wp2_with fail
  rw [← HWW.out]
  refine wp_region_below_tail 34 (by kernel_rfl) (by kernel_rfl) ?_
  simp only [List.take_succ_cons, List.take_zero, List.drop_succ_cons, List.drop_zero]
  repeat (go_big_quiet_step (first | (with_reducible exact Q1.out _ _) | (with_reducible exact Q2.out _ _) | (with_reducible exact Q3.out _ _) | (with_reducible exact Q4.out _ _) | (with_reducible exact Q5.out _ _) | (with_reducible exact Q6.out _ _) | (with_reducible exact Q7.out _ _) | (with_reducible exact Q8.out _ _) | (with_reducible exact Q9.out _ _)))
  refine wpQuiet_nil ?_
  rintro _ ⟨⟨dq, osq⟩, rfl⟩
  refine store_vec rfl (.tmp 4) (.tmp 38) rfl rfl (w.heap.size + 1 + 1) (subF (mulF ay bz) (mulF az by')) (subF (mulF az bx) (mulF ax bz)) (subF (mulF ax by') (mulF ay bx)) rfl rfl _ _ _ (heap_regrown H2.out dq osq) ?_
  have hb2 : Below w.heap.size w (grow (redrawn W dq) osq) := HBW.out.trans ((below_regrown W dq osq).mono HBW.out.size)
  have H3 := Lib.hid (setRow_heap (grow (redrawn W dq) osq) (w.heap.size + 1 + 1) _ #[.int .i64 (subF (mulF ay bz) (mulF az by')), .int .i64 (subF (mulF az bx) (mulF ax bz)), .int .i64 (subF (mulF ax by') (mulF ay bx))] _ _ (heap_regrown H2.out dq osq))
  have HB3 := Lib.hid (below_setRow hb2 (show w.heap.size ≤ w.heap.size + 1 + 1 by omega) #[.int .i64 (subF (mulF ay bz) (mulF az by')), .int .i64 (subF (mulF az bx) (mulF ax bz)), .int .i64 (subF (mulF ax by') (mulF ay bx))])
  clear hb2
  generalize (grow (redrawn W dq) osq).setRow (w.heap.size + 1 + 1) #[.int .i64 (subF (mulF ay bz) (mulF az by')), .int .i64 (subF (mulF az bx) (mulF ax bz)), .int .i64 (subF (mulF ax by') (mulF ay bx))] = w3 at *
  go_wp2_with fail
  refine bodyPost_ret (results_cell_row rfl _ _ (w.heap.size + 1 + 1) 23 _ _ _ rfl H3.out Try.underlying23 rfl vec_size) rfl ?_
  exact ⟨rfl, HB3.out⟩

end Go.Proofs.Ytdaokkgenfpmhaa.VecU

/- The walks of the reference of layer 2. -/
set_option linter.unusedVariables false
set_option linter.unusedSimpArgs false
namespace Go.Proofs.Ytdaokkgenfpmhaa.VecR
open Go.RowKit Go.Sort FixM Base Num FixW FixV FixU FixT FixS FixO FixN FixK FixP Qb Qt VecW VecV VecU

end Go.Proofs.Ytdaokkgenfpmhaa.VecR
