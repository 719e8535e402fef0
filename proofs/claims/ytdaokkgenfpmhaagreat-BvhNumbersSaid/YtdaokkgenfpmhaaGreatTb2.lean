/- Joined texts of this claim, part 2: contracts and plain laws that its proof stands on. -/
import Derived.Test.YtdaokkgenfpmhaaGreatTb1
/- Points in the world: what all walks of points share. -/
set_option linter.unusedVariables false
set_option linter.unusedSimpArgs false
namespace Go.Proofs.YtdaokkgenfpmhaaGreat.VecW
open Go.RowKit Go.Sort FixM Base Num Qb Qt

/-- a point, a way, a colour -/
structure V3 where
 x : Int
 y : Int
 z : Int
def V3.ok (a : V3) : Prop := In a.x ∧ In a.y ∧ In a.z
abbrev vecV (a : V3) : Value := .agg #[.int .i64 a.x, .int .i64 a.y, .int .i64 a.z]
def map2 (F : Int → Int → Int) (a b : V3) : V3 := ⟨F a.x b.x, F a.y b.y, F a.z b.z⟩

abbrev box3 (a : V3) : Obj := .cells #[.int .i64 a.x, .int .i64 a.y, .int .i64 a.z] 46
theorem cells3 {W : World} {g : Nat} {T : TypeId} {p q r : Value} (h : W.heap[g]? = some (.cells #[p, q, r] T)) :
  (∀ d os, (grow (redrawn W d) os).cell? ⟨g, 0, none⟩ = some p) ∧ (∀ d os, (grow (redrawn W d) os).cell? ⟨g, 1, none⟩ = some q) ∧ (∀ d os, (grow (redrawn W d) os).cell? ⟨g, 2, none⟩ = some r) := by
 refine ⟨fun d os => ?_, fun d os => ?_, fun d os => ?_⟩
 ·
  exact cell_regrown (by rw [cell_of_row W g 0 _ _ _ h]; rfl) d os
 ·
  exact cell_regrown (by rw [cell_of_row W g 1 _ _ _ h]; rfl) d os
 ·
  exact cell_regrown (by rw [cell_of_row W g 2 _ _ _ h]; rfl) d os
theorem vec_size : (Tryz.prog.info? 46).map (·.size) = some 3 := by kernel_rfl
theorem ones3 (a b c : Int) : ∀ v ∈ (#[Value.int .i64 a, .int .i64 b, .int .i64 c] : Array Value).toList, v.oneCell' = true := by
 intro v hv; simp at hv; rcases hv with rfl | rfl | rfl <;> rfl
theorem store_vec {ops : Array Oper} {rest : List Oper} {o : Oper} {a : Act} {w : World} {Q : Exit → Act → World → Prop} (hgd : o.guard = none) (x y : Operand) (ho : o.op = .store 46 x y) (hd : o.dst = none)
  (g : Nat) (A B C : Int) (hx : a.eval x = .pointer (some ⟨g, 0, none⟩)) (hy : a.eval y = .agg #[.int .i64 A, .int .i64 B, .int .i64 C]) (p q r : Value) (hg : w.heap[g]? = some (.cells #[p, q, r] 46))
  (h : wpList Tryz.prog ops Q rest a (w.setRow g #[.int .i64 A, .int .i64 B, .int .i64 C])) : wpList Tryz.prog ops Q (o :: rest) a w :=
 wpList_store_arr hgd 46 x y ho g _ hx hy 46 _ hg vec_size rfl (ones3 _ _ _) hd h
/-- the blocks behind two boxes and a result -/
theorem alloc3_0 (w : World) (o0 o1 o2 : Obj) : (((w.alloc o0).alloc o1).alloc o2).heap[w.heap.size]? = some o0 := by
 rw [heap_alloc_old _ _ (by simp; omega), heap_alloc_old _ _ (by simp)]; exact heap_alloc_new _ _
theorem alloc3_1 (w : World) (o0 o1 o2 : Obj) : (((w.alloc o0).alloc o1).alloc o2).heap[w.heap.size + 1]? = some o1 := by
 rw [heap_alloc_old _ _ (by simp)]; have := heap_alloc_new (w.alloc o0) o1; simpa using this
theorem alloc3_2 (w : World) (o0 o1 o2 : Obj) : (((w.alloc o0).alloc o1).alloc o2).heap[w.heap.size + 1 + 1]? = some o2 := by
 have := heap_alloc_new ((w.alloc o0).alloc o1) o2; simpa using this
theorem enters {f : FuncId} {fn : Func} {c : Code} (hf : Tryz.prog.funcs[f]? = some fn) (hname : (fn.name == "runtime.NumGoroutine") = false) (hb : fn.body = some c) (args : Array Value) (w : World) : (callFunc f args).run Tryz.prog w = .ok (.enter f args) w := by
 have h1 : fn.name ≠ "runtime.NumGoroutine" := by simpa using hname
 simp [callFunc, hf, h1, hb, mark]
theorem alloc3_below (w : World) (o0 o1 o2 : Obj) : Below w.heap.size w (((w.alloc o0).alloc o1).alloc o2) := ((ext_alloc w o0).alloc (by simp) o1).alloc (by simp; omega) o2

end Go.Proofs.YtdaokkgenfpmhaaGreat.VecW
namespace Go.Proofs.YtdaokkgenfpmhaaGreat.VecV
open Go.RowKit Go.Sort FixM Base Num Qb Qt VecW
def VTo (v : Value) (w : World) (e : Ending) (w' : World) : Prop := e = .returned v ∧ Below w.heap.size w w'
theorem same_below {f : FuncId} {args : Array Value} {w : World} {v : Value} (h : Calls Tryz.prog f args w (fun e w' => e = .returned v ∧ w = w')) : Calls Tryz.prog f args w (VTo v w) :=
 h.mono fun _ _ h => ⟨h.1, by rw [← h.2]; exact Below.refl _ _⟩
end Go.Proofs.YtdaokkgenfpmhaaGreat.VecV
namespace Go.Proofs.YtdaokkgenfpmhaaGreat.VecU
open Go.RowKit Go.Sort FixM Base Num Qb Qt VecW VecV
theorem alloc2_0 (w : World) (o0 o1 : Obj) : ((w.alloc o0).alloc o1).heap[w.heap.size]? = some o0 := by
 rw [heap_alloc_old _ _ (by simp)]; exact heap_alloc_new _ _
theorem alloc2_1 (w : World) (o0 o1 : Obj) : ((w.alloc o0).alloc o1).heap[w.heap.size + 1]? = some o1 := by
 have := heap_alloc_new (w.alloc o0) o1; simpa using this
theorem alloc2_below (w : World) (o0 o1 : Obj) : Below w.heap.size w ((w.alloc o0).alloc o1) := (ext_alloc w o0).alloc (by simp) o1
end Go.Proofs.YtdaokkgenfpmhaaGreat.VecU
namespace Go.Proofs.YtdaokkgenfpmhaaGreat.LightQ
open Go.RowKit Go.Sort FixM Base Num Qb Qt VecW VecV VecU
theorem cells_now {W : World} {g : Nat} {T : TypeId} {p q r : Value} (h : W.heap[g]? = some (.cells #[p, q, r] T)) :
  W.cell? ⟨g, 0, none⟩ = some p ∧ W.cell? ⟨g, 1, none⟩ = some q ∧ W.cell? ⟨g, 2, none⟩ = some r := by
 refine ⟨?_, ?_, ?_⟩
 ·
  rw [cell_of_row W g 0 _ _ _ h]; rfl
 ·
  rw [cell_of_row W g 1 _ _ _ h]; rfl
 ·
  rw [cell_of_row W g 2 _ _ _ h]; rfl
end Go.Proofs.YtdaokkgenfpmhaaGreat.LightQ
namespace Go.Proofs.YtdaokkgenfpmhaaGreat.LightC
open Go.RowKit Go.Sort FixM Base Num Qb Qt VecW VecV VecU
theorem cell_all {W : World} {g : Nat} {T : TypeId} {row : Array Value} (h : W.heap[g]? = some (.cells row T)) (k : Nat) (v : Value) (hv : row[k]? = some v) : ∀ d os, (grow (redrawn W d) os).cell? ⟨g, k, none⟩ = some v :=
 fun d os => cell_regrown (by rw [cell_of_row W g k _ _ _ h]; exact hv) d os
end Go.Proofs.YtdaokkgenfpmhaaGreat.LightC

/- The walks of package vec. -/
set_option linter.unusedVariables false
set_option linter.unusedSimpArgs false
namespace Go.Proofs.YtdaokkgenfpmhaaGreat.VecW
open Go.RowKit Go.Sort FixM Base Num FixW FixV FixU FixT FixS FixO FixN FixK FixP Qb Qt

set_option maxRecDepth 100000 in
set_option maxHeartbeats 2000000 in
theorem each_any (k : Nat) (cap : Array Value) (F : Int → Int → Int) (a b : V3) (ha : a.ok) (hb : b.ok) (w : World)
  (hen : ∀ args w, (callFunc k args).run Tryz.prog w = .ok (.enter k args) w)
  (hF : ∀ x y w', In x → In y → Below w.heap.size w w' → Calls Tryz.prog k (#[.int .i64 x, .int .i64 y] ++ cap) w' (fun e w'' => e = .returned (.int .i64 (F x y)) ∧ Below w'.heap.size w' w'')) :
  Calls Tryz.prog 93 #[vecV a, vecV b, .func (.func k) #[] cap] w fun e w' => e = .returned (.agg #[.int .i64 (F a.x b.x), .int .i64 (F a.y b.y), .int .i64 (F a.z b.z)]) ∧ Below w.heap.size w w' := by
 obtain ⟨ax, ay, az⟩ := a
 obtain ⟨bx, by', bz⟩ := b
 obtain ⟨ha1, ha2, ha3⟩ := ha
 obtain ⟨hb1, hb2, hb3⟩ := hb
 obtain ⟨W, hW⟩ : ∃ W, W = ((w.alloc (box3 ⟨ax, ay, az⟩)).alloc (box3 ⟨bx, by', bz⟩)).alloc (box3 ⟨0, 0, 0⟩) := ⟨_, rfl⟩
 have h0 : W.heap[w.heap.size]? = some (box3 ⟨ax, ay, az⟩) := by rw [hW]; exact alloc3_0 _ _ _ _
 have h1 : W.heap[w.heap.size + 1]? = some (box3 ⟨bx, by', bz⟩) := by rw [hW]; exact alloc3_1 _ _ _ _
 have h2 : W.heap[w.heap.size + 1 + 1]? = some (box3 ⟨0, 0, 0⟩) := by rw [hW]; exact alloc3_2 _ _ _ _
 have hBW : Below w.heap.size w W := by rw [hW]; exact alloc3_below _ _ _ _
 have f0 := qb (P := Tryz.prog) (W := W) (f := k) (fun w2 hb => hF ax bx w2 ha1 hb1 (hBW.trans (hb.mono hBW.size)))
 have f1 := qb (P := Tryz.prog) (W := W) (f := k) (fun w2 hb => hF ay by' w2 ha2 hb2 (hBW.trans (hb.mono hBW.size)))
 have f2 := qb (P := Tryz.prog) (W := W) (f := k) (fun w2 hb => hF az bz w2 ha3 hb3 (hBW.trans (hb.mono hBW.size)))
 obtain ⟨c0, c1, c2⟩ := cells3 h0
 obtain ⟨d0, d1, d2⟩ := cells3 h1
 have F0 := Lib.hid f0
 have F1 := Lib.hid f1
 have F2 := Lib.hid f2
 have H2 := Lib.hid h2
 have BW := Lib.hid hBW
 have HWW := Lib.hid hW
 clear hF f0 f1 f2 h0 h1 h2 hBW hW ha1 ha2 ha3 hb1 hb2 hb3
 go_enter Tryz.func93, Tryz.ntmps93
 go_wp2_with fail
 rw [← HWW.out]
 refine wp_region_below_tail 19 (by kernel_rfl) (by kernel_rfl) ?_
 simp only [List.take_succ_cons, List.take_zero, List.drop_succ_cons, List.drop_zero]
 repeat (go_big_quiet_step (first | (with_reducible exact F0.out _ _) | (with_reducible exact F1.out _ _) | (with_reducible exact F2.out _ _)))
 refine wpQuiet_nil ?_
 rintro _ ⟨⟨dq, osq⟩, rfl⟩
 refine wpList_store_arr rfl 46 (.tmp 6) (.tmp 25) rfl (w.heap.size + 1 + 1) #[.int .i64 (F ax bx), .int .i64 (F ay by'), .int .i64 (F az bz)] rfl rfl 46 _ (heap_regrown H2.out dq osq) vec_size rfl (ones3 _ _ _) rfl ?_
 have hb2 : Below w.heap.size w (grow (redrawn W dq) osq) := BW.out.trans ((below_regrown W dq osq).mono BW.out.size)
 have h3 := setRow_heap (grow (redrawn W dq) osq) (w.heap.size + 1 + 1) _ #[.int .i64 (F ax bx), .int .i64 (F ay by'), .int .i64 (F az bz)] _ _ (heap_regrown H2.out dq osq)
 have hb3 := below_setRow hb2 (show w.heap.size ≤ w.heap.size + 1 + 1 by omega) #[.int .i64 (F ax bx), .int .i64 (F ay by'), .int .i64 (F az bz)]
 have H3 := Lib.hid h3
 have HB3 := Lib.hid hb3
 clear h3 hb3 hb2 c0 c1 c2 d0 d1 d2
 generalize (grow (redrawn W dq) osq).setRow (w.heap.size + 1 + 1) #[.int .i64 (F ax bx), .int .i64 (F ay by'), .int .i64 (F az bz)] = w3 at *
 go_wp2_with fail
 refine bodyPost_ret (results_cell_row rfl _ _ (w.heap.size + 1 + 1) 46 _ _ _ rfl H3.out Tryz.underlying46 rfl vec_size) rfl ?_
 exact ⟨rfl, HB3.out⟩
end Go.Proofs.YtdaokkgenfpmhaaGreat.VecW

/- The walks of package vec: what goes number by number. -/
set_option linter.unusedVariables false
set_option linter.unusedSimpArgs false
namespace Go.Proofs.YtdaokkgenfpmhaaGreat.VecV
open Go.RowKit Go.Sort FixM Base Num FixW FixV FixU FixT FixS FixO FixN FixK FixP Qb Qt VecW

set_option maxRecDepth 100000 in
set_option maxHeartbeats 1000000 in
theorem vsub_any (a b : V3) (ha : a.ok) (hb : b.ok) (w : World) : Calls Tryz.prog 75 #[vecV a, vecV b] w (VTo (vecV (map2 subF a b)) w) := by
 obtain ⟨ax, ay, az⟩ := a
 obtain ⟨bx, by', bz⟩ := b
 have h2 := alloc3_2 w (box3 ⟨ax, ay, az⟩) (box3 ⟨bx, by', bz⟩) (box3 ⟨0, 0, 0⟩)
 have hBW := alloc3_below w (box3 ⟨ax, ay, az⟩) (box3 ⟨bx, by', bz⟩) (box3 ⟨0, 0, 0⟩)
 have c1 := fun w => each_any 40 #[] subF _ _ ha hb w (enters Tryz.func40 (by kernel_rfl) rfl) (fun x y w' hx hy _ => by have h := same_below (sub_any x y hx.1 hx.2 hy.1 hy.2 w'); simp only [Array.append_empty]; exact h)
 have H2 := Lib.hid h2
 have BW := Lib.hid hBW
 have C1 := Lib.hid c1
 clear h2 hBW c1 ha hb
 go_enter Tryz.func75, Tryz.ntmps75
 go_wp2_with fail
 refine (C1.out _).mono ?_
 rintro e w1 ⟨rfl, hb1⟩
 have HR1 := Lib.hid ((hb1.block _ (by simp)).trans H2.out)
 have HB1 := Lib.hid (BW.out.trans (hb1.mono BW.out.size))
 clear hb1
 have h3 := setRow_heap w1 (w.heap.size + 1 + 1) _ #[.int .i64 (subF ax bx), .int .i64 (subF ay by'), .int .i64 (subF az bz)] _ _ HR1.out
 have hb3 := below_setRow HB1.out (show w.heap.size ≤ w.heap.size + 1 + 1 by omega) #[.int .i64 (subF ax bx), .int .i64 (subF ay by'), .int .i64 (subF az bz)]
 have H3 := Lib.hid h3
 have HB3 := Lib.hid hb3
 clear h3 hb3
 go_wp2_with (with_reducible refine store_vec rfl (.tmp 4) (.tmp 7) rfl rfl (w.heap.size + 1 + 1) (subF ax bx) (subF ay by') (subF az bz) rfl rfl _ _ _ HR1.out ?_)
 generalize w1.setRow (w.heap.size + 1 + 1) #[.int .i64 (subF ax bx), .int .i64 (subF ay by'), .int .i64 (subF az bz)] = w3 at *
 refine bodyPost_ret (results_cell_row rfl _ _ (w.heap.size + 1 + 1) 46 _ _ _ rfl H3.out Tryz.underlying46 rfl vec_size) rfl ?_
 exact ⟨rfl, HB3.out⟩

set_option maxRecDepth 100000 in
set_option maxHeartbeats 1000000 in
theorem vmul_any (a b : V3) (ha : a.ok) (hb : b.ok) (w : World) : Calls Tryz.prog 94 #[vecV a, vecV b] w (VTo (vecV (map2 mulF a b)) w) := by
 obtain ⟨ax, ay, az⟩ := a
 obtain ⟨bx, by', bz⟩ := b
 have h2 := alloc3_2 w (box3 ⟨ax, ay, az⟩) (box3 ⟨bx, by', bz⟩) (box3 ⟨0, 0, 0⟩)
 have hBW := alloc3_below w (box3 ⟨ax, ay, az⟩) (box3 ⟨bx, by', bz⟩) (box3 ⟨0, 0, 0⟩)
 have c1 := fun w => each_any 90 #[] mulF _ _ ha hb w (enters Tryz.func90 (by kernel_rfl) rfl) (fun x y w' hx hy _ => by have h := same_below (mul_any x y hx.1 hx.2 hy.1 hy.2 w'); simp only [Array.append_empty]; exact h)
 have H2 := Lib.hid h2
 have BW := Lib.hid hBW
 have C1 := Lib.hid c1
 clear h2 hBW c1 ha hb
 go_enter Tryz.func94, Tryz.ntmps94
 go_wp2_with fail
 refine (C1.out _).mono ?_
 rintro e w1 ⟨rfl, hb1⟩
 have HR1 := Lib.hid ((hb1.block _ (by simp)).trans H2.out)
 have HB1 := Lib.hid (BW.out.trans (hb1.mono BW.out.size))
 clear hb1
 have h3 := setRow_heap w1 (w.heap.size + 1 + 1) _ #[.int .i64 (mulF ax bx), .int .i64 (mulF ay by'), .int .i64 (mulF az bz)] _ _ HR1.out
 have hb3 := below_setRow HB1.out (show w.heap.size ≤ w.heap.size + 1 + 1 by omega) #[.int .i64 (mulF ax bx), .int .i64 (mulF ay by'), .int .i64 (mulF az bz)]
 have H3 := Lib.hid h3
 have HB3 := Lib.hid hb3
 clear h3 hb3
 go_wp2_with (with_reducible refine store_vec rfl (.tmp 4) (.tmp 7) rfl rfl (w.heap.size + 1 + 1) (mulF ax bx) (mulF ay by') (mulF az bz) rfl rfl _ _ _ HR1.out ?_)
 generalize w1.setRow (w.heap.size + 1 + 1) #[.int .i64 (mulF ax bx), .int .i64 (mulF ay by'), .int .i64 (mulF az bz)] = w3 at *
 refine bodyPost_ret (results_cell_row rfl _ _ (w.heap.size + 1 + 1) 46 _ _ _ rfl H3.out Tryz.underlying46 rfl vec_size) rfl ?_
 exact ⟨rfl, HB3.out⟩

end Go.Proofs.YtdaokkgenfpmhaaGreat.VecV

/- The walks of package vec: the rest. -/
set_option linter.unusedVariables false
set_option linter.unusedSimpArgs false
namespace Go.Proofs.YtdaokkgenfpmhaaGreat.VecU
open Go.RowKit Go.Sort FixM Base Num FixW FixV FixU FixT FixS FixO FixN FixK FixP Qb Qt VecW VecV 

def dotF (a b : V3) : Int := addF (addF (mulF a.x b.x) (mulF a.y b.y)) (mulF a.z b.z)
def crossF (a b : V3) : V3 := ⟨subF (mulF a.y b.z) (mulF a.z b.y), subF (mulF a.z b.x) (mulF a.x b.z), subF (mulF a.x b.y) (mulF a.y b.x)⟩
theorem in_add (a b : Int) : In (addF a b) := clamp_in _
theorem in_sub (a b : Int) : In (subF a b) := clamp_in _
theorem in_mul (a b : Int) : In (mulF a b) := clamp_in _
theorem in_neg (a : Int) : In (negF a) := clamp_in _
theorem in_div (a b : Int) : In (divF a b) := by
 unfold divF
 split
 ·
  unfold In; split <;> (try split) <;> omega
 ·
  split <;> exact clamp_in _
theorem in_dot (a b : V3) : In (dotF a b) := clamp_in _
theorem ok_zero : (⟨0, 0, 0⟩ : V3).ok := by unfold V3.ok In; simp
theorem ok_cross (a b : V3) : (crossF a b).ok := ⟨in_sub _ _, in_sub _ _, in_sub _ _⟩
/-- a call's facts, seen from a world -/
theorem qa (x y : Int) (hx : In x) (hy : In y) (W : World) (d : Nat) (os : Array Obj) : Calls Tryz.prog 41 #[.int .i64 x, .int .i64 y] (grow (redrawn W d) os) (fun e w'' => e = .returned (.int .i64 (addF x y)) ∧ ∃ p : Regrown, w'' = grow (redrawn W p.d) p.os) := qs (fun w => add_any x y hx.1 hx.2 hy.1 hy.2 w) d os
theorem qm (x y : Int) (hx : In x) (hy : In y) (W : World) (d : Nat) (os : Array Obj) : Calls Tryz.prog 90 #[.int .i64 x, .int .i64 y] (grow (redrawn W d) os) (fun e w'' => e = .returned (.int .i64 (mulF x y)) ∧ ∃ p : Regrown, w'' = grow (redrawn W p.d) p.os) := qs (fun w => mul_any x y hx.1 hx.2 hy.1 hy.2 w) d os
theorem qsub (x y : Int) (hx : In x) (hy : In y) (W : World) (d : Nat) (os : Array Obj) : Calls Tryz.prog 40 #[.int .i64 x, .int .i64 y] (grow (redrawn W d) os) (fun e w'' => e = .returned (.int .i64 (subF x y)) ∧ ∃ p : Regrown, w'' = grow (redrawn W p.d) p.os) := qs (fun w => sub_any x y hx.1 hx.2 hy.1 hy.2 w) d os

set_option maxRecDepth 100000 in
set_option maxHeartbeats 2000000 in
theorem vdot_any (a b : V3) (ha : a.ok) (hb : b.ok) (w : World) : Calls Tryz.prog 77 #[vecV a, vecV b] w (VTo (.int .i64 (dotF a b)) w) := by
 have C1 := Lib.hid (fun w => vmul_any a b ha hb w)
 obtain ⟨ax, ay, az⟩ := a
 obtain ⟨bx, by', bz⟩ := b
 have BW := Lib.hid (alloc2_below w (box3 ⟨ax, ay, az⟩) (box3 ⟨bx, by', bz⟩))
 clear ha hb
 go_enter Tryz.func77, Tryz.ntmps77
 go_wp2_with fail
 refine (C1.out _).mono ?_
 rintro e w1 ⟨rfl, hb1⟩
 have HB1 := Lib.hid (BW.out.trans (hb1.mono BW.out.size))
 clear hb1
 obtain ⟨m1, hm1⟩ : ∃ m, m = mulF ax bx := ⟨_, rfl⟩
 obtain ⟨m2, hm2⟩ : ∃ m, m = mulF ay by' := ⟨_, rfl⟩
 obtain ⟨m3, hm3⟩ : ∃ m, m = mulF az bz := ⟨_, rfl⟩
 have i1 : In m1 := by rw [hm1]; exact in_mul _ _
 have i2 : In m2 := by rw [hm2]; exact in_mul _ _
 have i3 : In m3 := by rw [hm3]; exact in_mul _ _
 have HM := Lib.hid (show dotF ⟨ax, ay, az⟩ ⟨bx, by', bz⟩ = addF (addF m1 m2) m3 by rw [hm1, hm2, hm3]; rfl)
 simp only [vecV, map2, ← hm1, ← hm2, ← hm3]
 clear hm1 hm2 hm3
 go_wp2_with (with_reducible refine store_vec rfl (.tmp 5) (.tmp 8) rfl rfl w1.heap.size m1 m2 m3 rfl rfl _ _ _ (heap_alloc_new _ _) ?_)
 have hp := setRow_heap _ w1.heap.size _ #[.int .i64 m1, .int .i64 m2, .int .i64 m3] _ _ (heap_alloc_new w1 (box3 ⟨0, 0, 0⟩))
 have hpb := below_setRow (HB1.out.alloc HB1.out.size (box3 ⟨0, 0, 0⟩)) HB1.out.size #[.int .i64 m1, .int .i64 m2, .int .i64 m3]
 generalize (w1.alloc _).setRow w1.heap.size _ = W at *
 obtain ⟨c0, c1, c2⟩ := cells3 hp
 have q1 := qa m1 m2 i1 i2 W
 have q2 := qa (addF m1 m2) m3 (in_add _ _) i3 W
 have BP := Lib.hid hpb
 have Q1 := Lib.hid q1
 clear q1
 have Q2 := Lib.hid q2
 clear q2
 clear hp hpb i1 i2 i3
 refine wp_region_quiet_below (by kernel_rfl) (by kernel_rfl) ?_
 repeat (go_big_quiet_step (first | (with_reducible exact Q1.out _ _) | (with_reducible exact Q2.out _ _)))
 refine wpQuiet_nil ?_
 rintro _ ⟨⟨dq, osq⟩, rfl⟩
 have HF := Lib.hid (BP.out.trans ((below_regrown W dq osq).mono BP.out.size))
 go_wp2_with fail
 go_ret
 exact ⟨ret_int HM.out.symm, HF.out⟩

set_option maxRecDepth 100000 in
set_option maxHeartbeats 2000000 in
theorem vcross_any (a b : V3) (ha : a.ok) (hb : b.ok) (w : World) : Calls Tryz.prog 76 #[vecV a, vecV b] w (VTo (vecV (crossF a b)) w) := by
 obtain ⟨ax, ay, az⟩ := a
 obtain ⟨bx, by', bz⟩ := b
 obtain ⟨ha1, ha2, ha3⟩ := ha
 obtain ⟨hb1, hb2, hb3⟩ := hb
 obtain ⟨W, hW⟩ : ∃ W, W = ((w.alloc (box3 ⟨ax, ay, az⟩)).alloc (box3 ⟨bx, by', bz⟩)).alloc (box3 ⟨0, 0, 0⟩) := ⟨_, rfl⟩
 have h0 : W.heap[w.heap.size]? = some (box3 ⟨ax, ay, az⟩) := by rw [hW]; exact alloc3_0 _ _ _ _
 have h1 : W.heap[w.heap.size + 1]? = some (box3 ⟨bx, by', bz⟩) := by rw [hW]; exact alloc3_1 _ _ _ _
 have h2 : W.heap[w.heap.size + 1 + 1]? = some (box3 ⟨0, 0, 0⟩) := by rw [hW]; exact alloc3_2 _ _ _ _
 have hBW : Below w.heap.size w W := by rw [hW]; exact alloc3_below _ _ _ _
 obtain ⟨c0, c1, c2⟩ := cells3 h0
 obtain ⟨d0, d1, d2⟩ := cells3 h1
 have q1 := qm ay bz ha2 hb3 W
 have q2 := qm az by' ha3 hb2 W
 have q3 := qm az bx ha3 hb1 W
 have q4 := qm ax bz ha1 hb3 W
 have q5 := qm ax by' ha1 hb2 W
 have q6 := qm ay bx ha2 hb1 W
 have q7 := qsub (mulF ay bz) (mulF az by') (in_mul _ _) (in_mul _ _) W
 have q8 := qsub (mulF az bx) (mulF ax bz) (in_mul _ _) (in_mul _ _) W
 have q9 := qsub (mulF ax by') (mulF ay bx) (in_mul _ _) (in_mul _ _) W
 have H2 := Lib.hid h2
 have HBW := Lib.hid hBW
 have HWW := Lib.hid hW
 have Q1 := Lib.hid q1
 clear q1
 have Q2 := Lib.hid q2
 clear q2
 have Q3 := Lib.hid q3
 clear q3
 have Q4 := Lib.hid q4
 clear q4
 have Q5 := Lib.hid q5
 clear q5
 have Q6 := Lib.hid q6
 clear q6
 have Q7 := Lib.hid q7
 clear q7
 have Q8 := Lib.hid q8
 clear q8
 have Q9 := Lib.hid q9
 clear q9
 clear h0 h1 h2 hBW hW ha1 ha2 ha3 hb1 hb2 hb3
 go_enter Tryz.func76, Tryz.ntmps76
 go_wp2_with fail
 rw [← HWW.out]
 refine wp_region_below_tail 34 (by kernel_rfl) (by kernel_rfl) ?_
 simp only [List.take_succ_cons, List.take_zero, List.drop_succ_cons, List.drop_zero]
 repeat (go_big_quiet_step (first | (with_reducible exact Q1.out _ _) | (with_reducible exact Q2.out _ _) | (with_reducible exact Q3.out _ _) | (with_reducible exact Q4.out _ _) | (with_reducible exact Q5.out _ _) | (with_reducible exact Q6.out _ _) | (with_reducible exact Q7.out _ _) | (with_reducible exact Q8.out _ _) | (with_reducible exact Q9.out _ _)))
 refine wpQuiet_nil ?_
 rintro _ ⟨⟨dq, osq⟩, rfl⟩
 refine store_vec rfl (.tmp 4) (.tmp 38) rfl rfl (w.heap.size + 1 + 1) (subF (mulF ay bz) (mulF az by')) (subF (mulF az bx) (mulF ax bz)) (subF (mulF ax by') (mulF ay bx)) rfl rfl _ _ _ (heap_regrown H2.out dq osq) ?_
 have hb2 : Below w.heap.size w (grow (redrawn W dq) osq) := HBW.out.trans ((below_regrown W dq osq).mono HBW.out.size)
 have H3 := Lib.hid (setRow_heap (grow (redrawn W dq) osq) (w.heap.size + 1 + 1) _ #[.int .i64 (subF (mulF ay bz) (mulF az by')), .int .i64 (subF (mulF az bx) (mulF ax bz)), .int .i64 (subF (mulF ax by') (mulF ay bx))] _ _ (heap_regrown H2.out dq osq))
 have HB3 := Lib.hid (below_setRow hb2 (show w.heap.size ≤ w.heap.size + 1 + 1 by omega) #[.int .i64 (subF (mulF ay bz) (mulF az by')), .int .i64 (subF (mulF az bx) (mulF ax bz)), .int .i64 (subF (mulF ax by') (mulF ay bx))])
 clear hb2
 generalize (grow (redrawn W dq) osq).setRow (w.heap.size + 1 + 1) #[.int .i64 (subF (mulF ay bz) (mulF az by')), .int .i64 (subF (mulF az bx) (mulF ax bz)), .int .i64 (subF (mulF ax by') (mulF ay bx))] = w3 at *
 go_wp2_with fail
 refine bodyPost_ret (results_cell_row rfl _ _ (w.heap.size + 1 + 1) 46 _ _ _ rfl H3.out Tryz.underlying46 rfl vec_size) rfl ?_
 exact ⟨rfl, HB3.out⟩

end Go.Proofs.YtdaokkgenfpmhaaGreat.VecU

/- The walks of the reference of layer 2. -/
set_option linter.unusedVariables false
set_option linter.unusedSimpArgs false
namespace Go.Proofs.YtdaokkgenfpmhaaGreat.VecR
open Go.RowKit Go.Sort FixM Base Num FixW FixV FixU FixT FixS FixO FixN FixK FixP Qb Qt VecW VecV VecU

theorem ra (x y : Int) (hx : In x) (hy : In y) (W : World) (d : Nat) (os : Array Obj) : Calls Tryz.prog 70 #[.int .i64 x, .int .i64 y] (grow (redrawn W d) os) (fun e w'' => e = .returned (.int .i64 (addF x y)) ∧ ∃ p : Regrown, w'' = grow (redrawn W p.d) p.os) := qs (fun w => radd_any x y hx.1 hx.2 hy.1 hy.2 w) d os

theorem rm (x y : Int) (hx : In x) (hy : In y) (W : World) (d : Nat) (os : Array Obj) : Calls Tryz.prog 100 #[.int .i64 x, .int .i64 y] (grow (redrawn W d) os) (fun e w'' => e = .returned (.int .i64 (mulF x y)) ∧ ∃ p : Regrown, w'' = grow (redrawn W p.d) p.os) := qs (fun w => rmul_any x y hx.1 hx.2 hy.1 hy.2 w) d os

theorem rs (x y : Int) (hx : In x) (hy : In y) (W : World) (d : Nat) (os : Array Obj) : Calls Tryz.prog 69 #[.int .i64 x, .int .i64 y] (grow (redrawn W d) os) (fun e w'' => e = .returned (.int .i64 (subF x y)) ∧ ∃ p : Regrown, w'' = grow (redrawn W p.d) p.os) := qs (fun w => rsub_any x y hx.1 hx.2 hy.1 hy.2 w) d os

set_option maxRecDepth 100000 in
set_option maxHeartbeats 2000000 in
theorem vrsub_any (a b : V3) (ha : a.ok) (hb : b.ok) (w : World) : Calls Tryz.prog 97 #[vecV a, vecV b] w (VTo (vecV (map2 subF a b)) w) := by
 obtain ⟨ax, ay, az⟩ := a
 obtain ⟨bx, by', bz⟩ := b
 obtain ⟨ha1, ha2, ha3⟩ := ha
 obtain ⟨hb1, hb2, hb3⟩ := hb
 obtain ⟨W, hW⟩ : ∃ W, W = ((w.alloc (box3 ⟨ax, ay, az⟩)).alloc (box3 ⟨bx, by', bz⟩)).alloc (box3 ⟨0, 0, 0⟩) := ⟨_, rfl⟩
 have h0 : W.heap[w.heap.size]? = some (box3 ⟨ax, ay, az⟩) := by rw [hW]; exact alloc3_0 _ _ _ _
 have h1 : W.heap[w.heap.size + 1]? = some (box3 ⟨bx, by', bz⟩) := by rw [hW]; exact alloc3_1 _ _ _ _
 have h2 : W.heap[w.heap.size + 1 + 1]? = some (box3 ⟨0, 0, 0⟩) := by rw [hW]; exact alloc3_2 _ _ _ _
 have hBW : Below w.heap.size w W := by rw [hW]; exact alloc3_below _ _ _ _
 obtain ⟨c0, c1, c2⟩ := cells3 h0
 obtain ⟨d0, d1, d2⟩ := cells3 h1
 have q1 := rs ax bx ha1 hb1 W
 have q2 := rs ay by' ha2 hb2 W
 have q3 := rs az bz ha3 hb3 W
 have H2 := Lib.hid h2
 have HBW := Lib.hid hBW
 have HWW := Lib.hid hW
 have Q1 := Lib.hid q1
 clear q1
 have Q2 := Lib.hid q2
 clear q2
 have Q3 := Lib.hid q3
 clear q3
 clear h0 h1 h2 hBW hW ha1 ha2 ha3 hb1 hb2 hb3
 go_enter Tryz.func97, Tryz.ntmps97
 go_wp2_with fail
 rw [← HWW.out]
 refine wp_region_below_tail 16 (by kernel_rfl) (by kernel_rfl) ?_
 simp only [List.take_succ_cons, List.take_zero, List.drop_succ_cons, List.drop_zero]
 repeat (go_big_quiet_step (first | (with_reducible exact Q1.out _ _) | (with_reducible exact Q2.out _ _) | (with_reducible exact Q3.out _ _)))
 refine wpQuiet_nil ?_
 rintro _ ⟨⟨dq, osq⟩, rfl⟩
 refine store_vec rfl (.tmp 4) (.tmp 20) rfl rfl (w.heap.size + 1 + 1) (subF ax bx) (subF ay by') (subF az bz) rfl rfl _ _ _ (heap_regrown H2.out dq osq) ?_
 have hb2 : Below w.heap.size w (grow (redrawn W dq) osq) := HBW.out.trans ((below_regrown W dq osq).mono HBW.out.size)
 have H3 := Lib.hid (setRow_heap (grow (redrawn W dq) osq) (w.heap.size + 1 + 1) _ #[.int .i64 (subF ax bx), .int .i64 (subF ay by'), .int .i64 (subF az bz)] _ _ (heap_regrown H2.out dq osq))
 have HB3 := Lib.hid (below_setRow hb2 (show w.heap.size ≤ w.heap.size + 1 + 1 by omega) #[.int .i64 (subF ax bx), .int .i64 (subF ay by'), .int .i64 (subF az bz)])
 clear hb2
 generalize (grow (redrawn W dq) osq).setRow (w.heap.size + 1 + 1) #[.int .i64 (subF ax bx), .int .i64 (subF ay by'), .int .i64 (subF az bz)] = w3 at *
 go_wp2_with fail
 refine bodyPost_ret (results_cell_row rfl _ _ (w.heap.size + 1 + 1) 46 _ _ _ rfl H3.out Tryz.underlying46 rfl vec_size) rfl ?_
 exact ⟨rfl, HB3.out⟩

set_option maxRecDepth 100000 in
set_option maxHeartbeats 2000000 in
theorem vrdot_any (a b : V3) (ha : a.ok) (hb : b.ok) (w : World) : Calls Tryz.prog 99 #[vecV a, vecV b] w (VTo (.int .i64 (dotF a b)) w) := by
 obtain ⟨ax, ay, az⟩ := a
 obtain ⟨bx, by', bz⟩ := b
 obtain ⟨ha1, ha2, ha3⟩ := ha
 obtain ⟨hb1, hb2, hb3⟩ := hb
 obtain ⟨W, hW⟩ : ∃ W, W = (w.alloc (box3 ⟨ax, ay, az⟩)).alloc (box3 ⟨bx, by', bz⟩) := ⟨_, rfl⟩
 have h0 : W.heap[w.heap.size]? = some (box3 ⟨ax, ay, az⟩) := by rw [hW]; exact alloc2_0 _ _ _
 have h1 : W.heap[w.heap.size + 1]? = some (box3 ⟨bx, by', bz⟩) := by rw [hW]; exact alloc2_1 _ _ _
 have hBW : Below w.heap.size w W := by rw [hW]; exact alloc2_below _ _ _
 obtain ⟨c0, c1, c2⟩ := cells3 h0
 obtain ⟨d0, d1, d2⟩ := cells3 h1
 have q1 := rm ax bx ha1 hb1 W
 have q2 := rm ay by' ha2 hb2 W
 have q3 := ra (mulF ax bx) (mulF ay by') (in_mul _ _) (in_mul _ _) W
 have Q1 := Lib.hid q1
 clear q1
 have Q2 := Lib.hid q2
 clear q2
 have Q3 := Lib.hid q3
 clear q3
 have C4 := Lib.hid (fun w => rmul_any az bz ha3.1 ha3.2 hb3.1 hb3.2 w)
 have i1 := in_add (mulF ax bx) (mulF ay by')
 have i2 := in_mul az bz
 have C5 := Lib.hid (fun w => radd_any (addF (mulF ax bx) (mulF ay by')) (mulF az bz) i1.1 i1.2 i2.1 i2.2 w)
 have H0 := Lib.hid h0
 have H1 := Lib.hid h1
 have HBW := Lib.hid hBW
 have HWW := Lib.hid hW
 clear h0 h1 hBW hW ha1 ha2 ha3 hb1 hb2 hb3 i1 i2
 go_enter Tryz.func99, Tryz.ntmps99
 go_wp2_with fail
 rw [← HWW.out]
 refine wp_region_quiet_below (by kernel_rfl) (by kernel_rfl) ?_
 repeat (go_big_quiet_step (first | (with_reducible exact Q1.out _ _) | (with_reducible exact Q2.out _ _) | (with_reducible exact Q3.out _ _)))
 refine wpQuiet_nil ?_
 rintro _ ⟨⟨dq, osq⟩, rfl⟩
 have HF := Lib.hid (HBW.out.trans ((below_regrown W dq osq).mono HBW.out.size))
 have e0 := c2 dq osq
 have e1 := d2 dq osq
 clear c0 c1 c2 d0 d1 d2
 generalize grow (redrawn W dq) osq = W1 at *
 go_wp2_with fail
 refine (C4.out _).mono ?_
 rintro e w1 ⟨rfl, rfl⟩
 go_wp2_with fail
 refine (C5.out _).mono ?_
 rintro e w1 ⟨rfl, rfl⟩
 go_wp2_with fail
 go_ret
 exact ⟨rfl, HF.out⟩

set_option maxRecDepth 100000 in
set_option maxHeartbeats 2000000 in
theorem vrcross_any (a b : V3) (ha : a.ok) (hb : b.ok) (w : World) : Calls Tryz.prog 98 #[vecV a, vecV b] w (VTo (vecV (crossF a b)) w) := by
 obtain ⟨ax, ay, az⟩ := a
 obtain ⟨bx, by', bz⟩ := b
 obtain ⟨ha1, ha2, ha3⟩ := ha
 obtain ⟨hb1, hb2, hb3⟩ := hb
 obtain ⟨W, hW⟩ : ∃ W, W = ((w.alloc (box3 ⟨ax, ay, az⟩)).alloc (box3 ⟨bx, by', bz⟩)).alloc (box3 ⟨0, 0, 0⟩) := ⟨_, rfl⟩
 have h0 : W.heap[w.heap.size]? = some (box3 ⟨ax, ay, az⟩) := by rw [hW]; exact alloc3_0 _ _ _ _
 have h1 : W.heap[w.heap.size + 1]? = some (box3 ⟨bx, by', bz⟩) := by rw [hW]; exact alloc3_1 _ _ _ _
 have h2 : W.heap[w.heap.size + 1 + 1]? = some (box3 ⟨0, 0, 0⟩) := by rw [hW]; exact alloc3_2 _ _ _ _
 have hBW : Below w.heap.size w W := by rw [hW]; exact alloc3_below _ _ _ _
 obtain ⟨c0, c1, c2⟩ := cells3 h0
 obtain ⟨d0, d1, d2⟩ := cells3 h1
 have q1 := fun W => rm ay bz ha2 hb3 W
 have q2 := fun W => rm az by' ha3 hb2 W
 have q3 := fun W => rm az bx ha3 hb1 W
 have q4 := fun W => rm ax bz ha1 hb3 W
 have q5 := fun W => rm ax by' ha1 hb2 W
 have q6 := fun W => rm ay bx ha2 hb1 W
 have q7 := fun W => rs (mulF ay bz) (mulF az by') (in_mul _ _) (in_mul _ _) W
 have q8 := fun W => rs (mulF az bx) (mulF ax bz) (in_mul _ _) (in_mul _ _) W
 have q9 := fun W => rs (mulF ax by') (mulF ay bx) (in_mul _ _) (in_mul _ _) W
 have H2 := Lib.hid h2
 have H0 := Lib.hid h0
 have H1 := Lib.hid h1
 have HBW := Lib.hid hBW
 have HWW := Lib.hid hW
 have Q1 := Lib.hid q1
 clear q1
 have Q2 := Lib.hid q2
 clear q2
 have Q3 := Lib.hid q3
 clear q3
 have Q4 := Lib.hid q4
 clear q4
 have Q5 := Lib.hid q5
 clear q5
 have Q6 := Lib.hid q6
 clear q6
 have Q7 := Lib.hid q7
 clear q7
 have Q8 := Lib.hid q8
 clear q8
 have Q9 := Lib.hid q9
 clear q9
 clear h0 h1 h2 hBW hW ha1 ha2 ha3 hb1 hb2 hb3 c0 c1 c2 d0 d1 d2
 go_enter Tryz.func98, Tryz.ntmps98
 go_wp2_with fail
 rw [← HWW.out]

 obtain ⟨c0, c1, c2⟩ := cells3 H0.out
 obtain ⟨d0, d1, d2⟩ := cells3 H1.out
 refine wp_region_quiet_below (by kernel_rfl) (by kernel_rfl) ?_
 repeat (go_big_quiet_step (first | (with_reducible exact Q1.out _ _ _) | (with_reducible exact Q2.out _ _ _) | (with_reducible exact Q7.out _ _ _)))
 refine wpQuiet_nil ?_
 rintro _ ⟨⟨dq, osq⟩, rfl⟩
 clear c0 c1 c2 d0 d1 d2
 have H01 := Lib.hid (heap_regrown H0.out dq osq)
 have H11 := Lib.hid (heap_regrown H1.out dq osq)
 have H21 := Lib.hid (heap_regrown H2.out dq osq)
 have HB1 := Lib.hid (HBW.out.trans ((below_regrown W dq osq).mono HBW.out.size))
 generalize grow (redrawn W dq) osq = W1 at *
 go_wp2_with fail
 obtain ⟨c0, c1, c2⟩ := cells3 H01.out
 obtain ⟨d0, d1, d2⟩ := cells3 H11.out
 refine wp_region_quiet_below (by kernel_rfl) (by kernel_rfl) ?_
 repeat (go_big_quiet_step (first | (with_reducible exact Q3.out _ _ _) | (with_reducible exact Q4.out _ _ _) | (with_reducible exact Q8.out _ _ _)))
 refine wpQuiet_nil ?_
 rintro _ ⟨⟨dq, osq⟩, rfl⟩
 clear c0 c1 c2 d0 d1 d2
 have H02 := Lib.hid (heap_regrown H01.out dq osq)
 have H12 := Lib.hid (heap_regrown H11.out dq osq)
 have H22 := Lib.hid (heap_regrown H21.out dq osq)
 have HB2 := Lib.hid (HB1.out.trans ((below_regrown W1 dq osq).mono HB1.out.size))
 generalize grow (redrawn W1 dq) osq = W2 at *
 go_wp2_with fail
 obtain ⟨c0, c1, c2⟩ := cells3 H02.out
 obtain ⟨d0, d1, d2⟩ := cells3 H12.out
 refine wp_region_quiet_below (by kernel_rfl) (by kernel_rfl) ?_
 repeat (go_big_quiet_step (first | (with_reducible exact Q5.out _ _ _) | (with_reducible exact Q6.out _ _ _) | (with_reducible exact Q9.out _ _ _)))
 refine wpQuiet_nil ?_
 rintro _ ⟨⟨dq, osq⟩, rfl⟩
 clear c0 c1 c2 d0 d1 d2
 have HR1 := Lib.hid (heap_regrown H22.out dq osq)
 have HB1' := Lib.hid (HB2.out.trans ((below_regrown W2 dq osq).mono HB2.out.size))
 generalize grow (redrawn W2 dq) osq = w1 at *
 have H3 := Lib.hid (setRow_heap w1 (w.heap.size + 1 + 1) _ #[.int .i64 (subF (mulF ay bz) (mulF az by')), .int .i64 (subF (mulF az bx) (mulF ax bz)), .int .i64 (subF (mulF ax by') (mulF ay bx))] _ _ HR1.out)
 have HB3 := Lib.hid (below_setRow HB1'.out (show w.heap.size ≤ w.heap.size + 1 + 1 by omega) #[.int .i64 (subF (mulF ay bz) (mulF az by')), .int .i64 (subF (mulF az bx) (mulF ax bz)), .int .i64 (subF (mulF ax by') (mulF ay bx))])
 go_wp2_with (with_reducible refine store_vec rfl (.tmp 4) (.tmp 44) rfl rfl (w.heap.size + 1 + 1) (subF (mulF ay bz) (mulF az by')) (subF (mulF az bx) (mulF ax bz)) (subF (mulF ax by') (mulF ay bx)) rfl rfl _ _ _ HR1.out ?_)
 generalize w1.setRow (w.heap.size + 1 + 1) #[.int .i64 (subF (mulF ay bz) (mulF az by')), .int .i64 (subF (mulF az bx) (mulF ax bz)), .int .i64 (subF (mulF ax by') (mulF ay bx))] = w3 at *
 refine bodyPost_ret (results_cell_row rfl _ _ (w.heap.size + 1 + 1) 46 _ _ _ rfl H3.out Tryz.underlying46 rfl vec_size) rfl ?_
 exact ⟨rfl, HB3.out⟩

end Go.Proofs.YtdaokkgenfpmhaaGreat.VecR

/- Slices of records: each element takes c cells. What lies there, what is one's own, append. No program is named here. -/
set_option linter.unusedVariables false
set_option linter.unusedSimpArgs false
namespace Go.Proofs.YtdaokkgenfpmhaaGreat.Rec
open Go.RowKit Base

structure Recs {α : Type} (c : Nat) (enc : α → List Value) (w : World) (v : Value) (l : List α) : Prop where
 shape : ∃ a cap, v = .slice a l.length cap ∧ l.length ≤ cap ∧ cap ≤ maxLen ∧ (a = none → l.length = 0 ∧ cap = 0)
 cells : l ≠ [] → ∃ b off cap, v = .slice (some ⟨b, off, none⟩) l.length cap ∧ b < w.heap.size ∧ ∀ i (h : i < l.length) k x, (enc l[i])[k]? = some x → w.cell? ⟨b, off + i * c + k, none⟩ = some x
structure RecsOwn {α : Type} (c : Nat) (enc : α → List Value) (E base : Nat) (w : World) (v : Value) (l : List α) : Prop where
 row : w.ownsRow base E c v l.length (l.flatMap enc)
section
variable {α : Type} {c : Nat} {enc : α → List Value}
theorem add_flat (b off j : Nat) : (⟨b, off, none⟩ : Addr).add j = ⟨b, off + j, none⟩ := by unfold Addr.add; split <;> simp_all
theorem flat_len (hlen : ∀ x, (enc x).length = c) (l : List α) : (l.flatMap enc).length = l.length * c := by
 induction l with
 | nil => simp
 | cons x l ih => rw [List.flatMap_cons, List.length_append, hlen, ih, List.length_cons, Nat.add_mul]; omega
theorem flat_at (hlen : ∀ x, (enc x).length = c) : ∀ (l : List α) (i k : Nat) (h : i < l.length), k < c → (l.flatMap enc)[i * c + k]? = (enc l[i])[k]? := by
 intro l
 induction l with
 | nil => intro i k h; simp at h
 | cons x l ih =>
  intro i k h hk
  rw [List.flatMap_cons]
  cases i with
  | zero => rw [Nat.zero_mul, Nat.zero_add, List.getElem?_append_left (by rw [hlen]; exact hk)]; rfl
  | succ i =>
   rw [List.getElem?_append_right (by rw [hlen, Nat.add_mul]; omega), hlen, show (i + 1) * c + k - c = i * c + k by rw [Nat.add_mul]; omega, ih i k (by simpa using h) hk]
   simp
theorem Recs.nil (w : World) : Recs c enc w (.slice none 0 0) [] where
 shape := ⟨none, 0, rfl, Nat.le_refl _, by unfold maxLen; omega, fun _ => ⟨rfl, rfl⟩⟩
 cells := fun h => absurd rfl h
theorem Recs.below {w w' : World} {B : Nat} {v : Value} {l : List α} (h : Recs c enc w v l) (hb : Below B w w') (hB : w.heap.size ≤ B) : Recs c enc w' v l where
 shape := h.shape
 cells := fun hne => by
  obtain ⟨b, off, cap, e, hlt, hc⟩ := h.cells hne
  exact ⟨b, off, cap, e, Nat.lt_of_lt_of_le hlt hb.size, fun i hi k x hx => (hb.cell (p := ⟨b, off + i * c + k, none⟩) (Nat.lt_of_lt_of_le hlt hB)).trans (hc i hi k x hx)⟩
theorem Recs.frame {w w' : World} {S : Nat → Prop} {v : Value} {l : List α} (h : Recs c enc w v l) (hf : Keeps S w w') (hn : ∀ b, v.ownBlock = some b → ¬ S b) : Recs c enc w' v l where
 shape := h.shape
 cells := fun hne => by
  obtain ⟨b, off, cap, e, hlt, hc⟩ := h.cells hne
  refine ⟨b, off, cap, e, Nat.lt_of_lt_of_le hlt hf.size, fun i hi k x hx => ?_⟩
  rw [← hc i hi k x hx]
  exact World.cell?_of_block (a := ⟨b, off + i * c + k, none⟩) (hf.block b hlt (hn b (by rw [e]; rfl)))
theorem Recs.open_ {w : World} {v : Value} {l : List α} (h : Recs c enc w v l) : ∃ a cap, v = .slice a l.length cap ∧ l.length ≤ 9223372036854775807 ∧
  (∀ j (_ : j < l.length), ∃ b off, a = some ⟨b, off, none⟩ ∧ b < w.heap.size ∧ ∀ i (h : i < l.length) k x, (enc l[i])[k]? = some x → w.cell? ⟨b, off + i * c + k, none⟩ = some x) := by
 obtain ⟨a, cap, rfl, h1, h2, _⟩ := h.shape
 refine ⟨a, cap, rfl, by unfold maxLen at h2; omega, ?_⟩
 intro j hj
 obtain ⟨b, off, cap', e, hb, hc⟩ := h.cells (by intro h0; subst h0; simp at hj)
 simp only [Value.slice.injEq] at e
 exact ⟨b, off, e.1, hb, hc⟩
theorem Recs.fits {w : World} {a : Option Addr} {n cap : Nat} {l : List α} (h : Recs c enc w (.slice a n cap) l) : n = l.length := by
 obtain ⟨_, _, e, _⟩ := h.shape; simp only [Value.slice.injEq] at e; exact e.2.1
theorem Recs.lt {w : World} {v : Value} {l : List α} (h : Recs c enc w v l) (hne : l ≠ []) : ∀ b, v.ownBlock = some b → b < w.heap.size := by
 intro b hb
 obtain ⟨b', off, cap, e, hlt, _⟩ := h.cells hne
 rw [e] at hb; simp only [Value.ownBlock, Option.some.injEq] at hb; omega
theorem RecsOwn.nil (E base : Nat) (w : World) : RecsOwn c enc E base w (.slice none 0 0) [] := ⟨World.ownsRow_nil _ _ _ _⟩
theorem RecsOwn.recs (hlen : ∀ x, (enc x).length = c) {E base : Nat} {w : World} {v : Value} {l : List α} (h : RecsOwn c enc E base w v l) : Recs c enc w v l where
 shape := by
  rcases h.row.2 with ⟨rfl, h0⟩ | ⟨g, cap, cur, rfl, _, _, h1, h2, _⟩
  ·
   exact ⟨none, 0, by rw [h0], by omega, by unfold maxLen; omega, fun _ => ⟨h0, rfl⟩⟩
  ·
   exact ⟨_, cap, rfl, h1, h2, fun e => by simp at e⟩
 cells := fun hne => by
  rcases h.row.2 with ⟨rfl, h0⟩ | ⟨g, cap, cur, rfl, _, hg, h1, h2, h3, h4⟩
  ·
   exact absurd (List.eq_nil_of_length_eq_zero h0) hne
  ·
   refine ⟨g, 0, cap, rfl, lt_of_heap hg, ?_⟩
   intro i hi k x hx
   have hk : k < c := by
    rcases Nat.lt_or_ge k c with h | h
    ·
     exact h
    ·
     rw [List.getElem?_eq_none (by rw [hlen]; exact h)] at hx; simp at hx
   have hlt : i * c + k < l.length * c := by
    have : (i + 1) * c ≤ l.length * c := Nat.mul_le_mul_right _ hi
    rw [Nat.add_mul] at this; omega
   rw [cell_of_row w g (0 + i * c + k) cur _ _ hg, Nat.zero_add]
   have e : (l.flatMap enc)[i * c + k]? = cur[i * c + k]? := by rw [← h4, List.getElem?_take_of_lt hlt]; simp
   rw [← e, flat_at hlen l i k hi hk]; exact hx
theorem RecsOwn.mono {E base base' : Nat} {w : World} {v : Value} {l : List α} (h : RecsOwn c enc E base w v l) (hb : base' ≤ base) : RecsOwn c enc E base' w v l := by
 refine ⟨⟨h.row.1, ?_⟩⟩
 rcases h.row.2 with h0 | ⟨g, cap, cur, e, hbg, r⟩
 ·
  exact .inl h0
 ·
  exact .inr ⟨g, cap, cur, e, by omega, r⟩
theorem RecsOwn.lt {E base : Nat} {w : World} {v : Value} {l : List α} (h : RecsOwn c enc E base w v l) : ∀ b, v.ownBlock = some b → base ≤ b ∧ b < w.heap.size := by
 intro b hb
 rcases h.row.2 with ⟨rfl, _⟩ | ⟨g, cap, cur, rfl, hbg, hg, _⟩
 ·
  simp [Value.ownBlock] at hb
 ·
  simp only [Value.ownBlock, Option.some.injEq] at hb; subst hb; exact ⟨hbg, lt_of_heap hg⟩
theorem RecsOwn.slice_ {E base : Nat} {w : World} {v : Value} {l : List α} (h : RecsOwn c enc E base w v l) : ∃ a cap, v = .slice a l.length cap := by
 rcases h.row.2 with ⟨rfl, h0⟩ | ⟨g, cap, cur, rfl, _⟩
 ·
  exact ⟨none, 0, by rw [h0]⟩
 ·
  exact ⟨_, cap, rfl⟩
theorem RecsOwn.frame {E base : Nat} {w w' : World} {S : Nat → Prop} {v : Value} {l : List α} (h : RecsOwn c enc E base w v l) (hf : Keeps S w w') (hn : ∀ b, v.ownBlock = some b → ¬ S b) : RecsOwn c enc E base w' v l := by
 refine ⟨⟨h.row.1, ?_⟩⟩
 rcases h.row.2 with h0 | ⟨g, cap, cur, e, hbg, hg, r⟩
 ·
  exact .inl h0
 ·
  exact .inr ⟨g, cap, cur, e, hbg, by rw [hf.block g (lt_of_heap hg) (hn g (by rw [e]; rfl))]; exact hg, r⟩
theorem RecsOwn.below {E base B : Nat} {w w' : World} {v : Value} {l : List α} (h : RecsOwn c enc E base w v l) (hb : Below B w w') (hB : w.heap.size ≤ B) : RecsOwn c enc E base w' v l :=
 h.frame (Keeps.of_below hb (fun k => B ≤ k) (fun _ h _ => h)) (fun b hb' => by have := (h.lt b hb').2; omega)
/-- one element, laid into a block of its own -/
theorem recs_one (hlen : ∀ x, (enc x).length = c) (E : Nat) (w : World) (x : α) (row : Array Value) (hr : row.toList = enc x) : Recs c enc (w.alloc (.cells row E)) (.slice (some ⟨w.heap.size, 0, none⟩) 1 1) [x] where
 shape := ⟨_, 1, rfl, Nat.le_refl _, by unfold maxLen; omega, fun e => by simp at e⟩
 cells := fun _ => ⟨w.heap.size, 0, 1, rfl, by simp, fun i hi k y hy => by
  have : i = 0 := by simp at hi; omega
  subst this
  rw [cell_of_row _ w.heap.size _ row E (0, 0) (heap_alloc_new _ _)]
  simp only [List.getElem_cons_zero] at hy
  rw [← hy, ← hr]; simp⟩
end
structure RecSlice {α : Type} (P : Program) (T E : TypeId) (c : Nat) (enc : α → List Value) (z : Value) (bytes : Nat) : Prop where
 und : P.underlying T = some (.slice E)
 info : ∃ i, P.info? E = some i ∧ i.zero = some z ∧ i.size = c ∧ i.bytes = bytes
 zone : z.cells.size = c
 one : ∀ x, ∀ u ∈ enc x, u.oneCell' = true
 len : ∀ x, (enc x).length = c
 pos : 0 < c
theorem recSlice {α : Type} {P : Program} {T E : TypeId} {c : Nat} {enc : α → List Value} {z : Value} {bytes : Nat} (h : P.underlying T = some (.slice E))
  (hi : (P.info? E).map (fun i => (i.zero, i.size, i.bytes)) = some (some z, c, bytes)) (hz : z.cells.size = c) (h1 : ∀ x, ∀ u ∈ enc x, u.oneCell' = true) (hl : ∀ x, (enc x).length = c) (hp : 0 < c) : RecSlice P T E c enc z bytes := by
 obtain ⟨i, e1, e2, e3, e4⟩ := info_parts hi
 exact ⟨h, ⟨i, e1, e2, e3, e4⟩, hz, h1, hl, hp⟩
theorem wpList_append_recs {P : Program} {α : Type} {c : Nat} {enc : α → List Value} {w : World} {ops : Array Oper} {rest : List Oper} {o : Oper} {a : Act} {Q : Exit → Act → World → Prop} (hgd : o.guard = none) (s x : Operand) (T E : TypeId)
  (ho : o.op = .call { callee := .builtin .append, args := #[s, x], argTypes := #[T, T] }) (z : Value) (bytes base : Nat) (hT : RecSlice P T E c enc z bytes)
  (v : Value) (l : List α) (hs : a.eval s = v) (hown : RecsOwn c enc E base w v l) (u : Value) (m : List α) (hx : a.eval x = u) (hu : Recs c enc w u m)
  (hb : (l.length + m.length) * bytes ≤ 140737488355328) (hl : l.length + m.length ≤ 140737488355328) (hbase : base ≤ w.heap.size)
  (h : ∀ v' w', RecsOwn c enc E base w' v' (l ++ m) → w.grownBy w' v.ownBlock → (v'.ownBlock = v.ownBlock ∨ v'.ownBlock = some w.heap.size) → wpList P ops Q rest (a.put o.dst v') w') : wpList P ops Q (o :: rest) a w := by
 obtain ⟨i, hi, hz, h1, h2⟩ := hT.info
 obtain ⟨ad, cap, rfl, hc1, hc2, hnone⟩ := hu.shape
 have hone : ∀ y ∈ m.flatMap enc, y.oneCell' = true := by intro y hy; simp only [List.mem_flatMap] at hy; obtain ⟨n, _, hn⟩ := hy; exact hT.one n y hn
 have hap : (l ++ m).flatMap enc = l.flatMap enc ++ m.flatMap enc := List.flatMap_append
 cases ad with
 | none =>
  obtain ⟨hm, rfl⟩ := hnone rfl
  obtain rfl : m = [] := List.eq_nil_of_length_eq_zero hm
  refine wpList_append_own_none hgd s x T ho base E i c hT.und hi v l.length (l.flatMap enc) hs hown.row hx ?_
  refine h v w (by simpa using hown) ?_ (.inl rfl)
  exact ⟨rfl, rfl, rfl, Nat.le_refl _, fun _ _ _ => rfl⟩
 | some ad =>
  have hml : (m.flatMap enc).length = m.length * c := flat_len hT.len m
  have hnews : ∀ j (y : Value), (m.flatMap enc)[j]? = some y → w.cell? (ad.add j) = some y := by
   intro j y hj
   have hjl : j < m.length * c := by
    rcases Nat.lt_or_ge j (m.length * c) with h | h
    ·
     exact h
    ·
     rw [List.getElem?_eq_none (by rw [hml]; exact h)] at hj; simp at hj
   have hi' : j / c < m.length := Nat.div_lt_of_lt_mul (by rw [Nat.mul_comm]; exact hjl)
   obtain ⟨b, off, cap', e, _, hc⟩ := hu.cells (by intro h0; subst h0; simp at hi')
   simp only [Value.slice.injEq, Option.some.injEq] at e
   obtain ⟨rfl, _, _⟩ := e
   have hjj : j = j / c * c + j % c := by rw [Nat.mul_comm]; exact (Nat.div_add_mod j c).symm
   have hmod : j % c < c := Nat.mod_lt _ hT.pos
   have := hc (j / c) hi' (j % c) y (by rw [← flat_at hT.len m (j / c) (j % c) hi' hmod, ← hjj]; exact hj)
   rw [show ((⟨b, off, none⟩ : Addr).add j) = ⟨b, off + j / c * c + j % c, none⟩ from by
    rw [Nat.add_assoc, ← hjj]; exact add_flat b off j]
   exact this
  obtain ⟨v', w', hrun, r1, r2, _, r3⟩ := run_append_own_at (P := P) (w := w) base T o.type E i z c bytes hT.und hi hz h1 h2 hT.zone hT.pos v l.length (l.flatMap enc) hown.row ad m.length cap (m.flatMap enc) hml hnews hone (by unfold maxLen; omega) hb hbase
  refine wpList_plain hgd fun K hK => ?_
  unfold Oper.wp
  simp [execOp, ho, resolve, invoke, builtin, hs, hx, hrun, Result.andThen]
  exact hK _ _ (h v' w' ⟨by rw [List.length_append, hap]; exact r1⟩ r2 r3)
end Go.Proofs.YtdaokkgenfpmhaaGreat.Rec

/- Meshes as lists: what layer 12 checks and reckons. Plain. -/
set_option linter.unusedVariables false
set_option linter.unusedSimpArgs false
namespace Go.Proofs.YtdaokkgenfpmhaaGreat.MeshM
open FixM VecW

structure B4 where
 c : V3
 r : Int
structure Msh where
 ps : List V3
 ts : List V3
 bs : List B4
structure Msh.ok (m : Msh) : Prop where
 ps : ∀ p ∈ m.ps, p.ok
 ts : ∀ p ∈ m.ts, p.ok
 bs : ∀ b ∈ m.bs, b.c.ok ∧ In b.r
def nearI (x : Int) : Bool := decide (-4503599627370496 ≤ x) && decide (x ≤ 4503599627370496)
def nearV (v : V3) : Bool := nearI v.x && nearI v.y && nearI v.z
def placeI (n : Nat) (t : Int) : Bool := decide (0 ≤ t) && decide (t < (n : Int))
def hasF (n : Nat) (t : V3) : Bool := placeI n t.x && placeI n t.y && placeI n t.z
def ballF (b : B4) : Bool := nearV b.c && decide (1 ≤ b.r) && decide (b.r ≤ 4503599627370496)
def rightF (m : Msh) : Bool := m.ps.all nearV && m.ts.all (hasF m.ps.length) && m.bs.all ballF
def tooF (m : Msh) : Prop := 4096 < m.ps.length ∨ 4096 < m.ts.length + m.bs.length
instance (m : Msh) : Decidable (tooF m) := by unfold tooF; infer_instance
def checkF (m : Msh) : Int := if tooF m then 14 else if rightF m then 0 else 14
end Go.Proofs.YtdaokkgenfpmhaaGreat.MeshM

/- A mesh in the world; the small functions of Check. -/
set_option linter.unusedVariables false
set_option linter.unusedSimpArgs false
namespace Go.Proofs.YtdaokkgenfpmhaaGreat.MeshA
open Go.RowKit Go.Sort FixM Base Num Qb Qt VecW VecV VecU LightQ LightC MeshM Rec

def enc3 (v : V3) : List Value := [.int .i64 v.x, .int .i64 v.y, .int .i64 v.z]
def enc4 (b : B4) : List Value := [.int .i64 b.c.x, .int .i64 b.c.y, .int .i64 b.c.z, .int .i64 b.r]
theorem len3 (v : V3) : (enc3 v).length = 3 := rfl
theorem len4 (b : B4) : (enc4 b).length = 4 := rfl
theorem one3 (v : V3) : ∀ u ∈ enc3 v, u.oneCell' = true := by intro u hu; simp [enc3] at hu; rcases hu with rfl | rfl | rfl <;> rfl
theorem one4 (v : B4) : ∀ u ∈ enc4 v, u.oneCell' = true := by intro u hu; simp [enc4] at hu; rcases hu with rfl | rfl | rfl | rfl <;> rfl
theorem at3 {w : World} {a : Option Addr} {n cap : Nat} {l : List V3} (h : Recs 3 enc3 w (.slice a n cap) l) (i : Nat) (hi : i < l.length) :
  ∃ b off, a = some ⟨b, off, none⟩ ∧ b < w.heap.size ∧ w.cell? ⟨b, off + i * 3, none⟩ = some (.int .i64 l[i].x) ∧ w.cell? ⟨b, off + i * 3 + 1, none⟩ = some (.int .i64 l[i].y) ∧ w.cell? ⟨b, off + i * 3 + 2, none⟩ = some (.int .i64 l[i].z) := by
 obtain ⟨a', cap', e, _, hc⟩ := h.open_
 simp only [Value.slice.injEq] at e
 obtain ⟨rfl, _, _⟩ := e
 obtain ⟨b, off, rfl, hb, hx⟩ := hc i hi
 exact ⟨b, off, rfl, hb, hx i hi 0 _ rfl, hx i hi 1 _ rfl, hx i hi 2 _ rfl⟩
theorem at4 {w : World} {a : Option Addr} {n cap : Nat} {l : List B4} (h : Recs 4 enc4 w (.slice a n cap) l) (i : Nat) (hi : i < l.length) :
  ∃ b off, a = some ⟨b, off, none⟩ ∧ b < w.heap.size ∧ w.cell? ⟨b, off + i * 4, none⟩ = some (.int .i64 l[i].c.x) ∧ w.cell? ⟨b, off + i * 4 + 1, none⟩ = some (.int .i64 l[i].c.y) ∧ w.cell? ⟨b, off + i * 4 + 2, none⟩ = some (.int .i64 l[i].c.z) ∧ w.cell? ⟨b, off + i * 4 + 3, none⟩ = some (.int .i64 l[i].r) := by
 obtain ⟨a', cap', e, _, hc⟩ := h.open_
 simp only [Value.slice.injEq] at e
 obtain ⟨rfl, _, _⟩ := e
 obtain ⟨b, off, rfl, hb, hx⟩ := hc i hi
 exact ⟨b, off, rfl, hb, hx i hi 0 _ rfl, hx i hi 1 _ rfl, hx i hi 2 _ rfl, hx i hi 3 _ rfl⟩
/-- a mesh that lies in the world -/
structure IsMesh (w : World) (v : Value) (m : Msh) : Prop where
 ex : ∃ v0 v1 v2, v = .agg #[v0, v1, v2] ∧ Recs 3 enc3 w v0 m.ps ∧ Recs 3 enc3 w v1 m.ts ∧ Recs 4 enc4 w v2 m.bs
theorem IsMesh.below {w w' : World} {v : Value} {m : Msh} (h : IsMesh w v m) (hb : Below w.heap.size w w') : IsMesh w' v m := by
 obtain ⟨v0, v1, v2, e, h0, h1, h2⟩ := h.ex
 exact ⟨⟨v0, v1, v2, e, h0.below hb (Nat.le_refl _), h1.below hb (Nat.le_refl _), h2.below hb (Nat.le_refl _)⟩⟩
theorem IsMesh.open_ {w : World} {v : Value} {m : Msh} (h : IsMesh w v m) : ∃ a0 c0 a1 c1 a2 c2, v = .agg #[.slice a0 m.ps.length c0, .slice a1 m.ts.length c1, .slice a2 m.bs.length c2] ∧ Recs 3 enc3 w (.slice a0 m.ps.length c0) m.ps ∧ Recs 3 enc3 w (.slice a1 m.ts.length c1) m.ts ∧ Recs 4 enc4 w (.slice a2 m.bs.length c2) m.bs ∧ m.ps.length ≤ 9223372036854775807 ∧ m.ts.length ≤ 9223372036854775807 ∧ m.bs.length ≤ 9223372036854775807 := by
 obtain ⟨v0, v1, v2, e, h0, h1, h2⟩ := h.ex
 obtain ⟨a0, c0, rfl, l0, _⟩ := h0.open_
 obtain ⟨a1, c1, rfl, l1, _⟩ := h1.open_
 obtain ⟨a2, c2, rfl, l2, _⟩ := h2.open_
 exact ⟨a0, c0, a1, c1, a2, c2, e, h0, h1, h2, l0, l1, l2⟩
theorem cell_row {W : World} {g : Nat} {T : TypeId} {row : Array Value} (h : W.heap[g]? = some (.cells row T)) (k : Nat) (v : Value) (hv : row[k]? = some v) : W.cell? ⟨g, k, none⟩ = some v := by
 rw [cell_of_row W g k _ _ _ h]; exact hv

set_option maxRecDepth 100000 in
theorem near1_any (x : Int) (w : World) : Calls Tryz.prog 58 #[.int .i64 x] w (fun e w' => e = .returned (.bool (nearI x)) ∧ w = w') := by
 unfold nearI
 by_cases h1 : -4503599627370496 ≤ x
 ·
  by_cases h2 : x ≤ 4503599627370496
  ·
   have d1 : decide (-4503599627370496 ≤ x) = true := decide_eq_true h1
   have d2 : decide (x ≤ 4503599627370496) = true := decide_eq_true h2
   rw [d1, d2]
   clear h1 h2
   go_enter Tryz.func58, Tryz.ntmps58
   go_wp2_with fail
   go_ret
   exact ⟨rfl, rfl⟩
  ·
   have d1 : decide (-4503599627370496 ≤ x) = true := decide_eq_true h1
   have d2 : decide (x ≤ 4503599627370496) = false := decide_eq_false h2
   rw [d1, d2]
   clear h1 h2
   go_enter Tryz.func58, Tryz.ntmps58
   go_wp2_with fail
   go_ret
   exact ⟨rfl, rfl⟩
 ·
  have d1 : decide (-4503599627370496 ≤ x) = false := decide_eq_false h1
  rw [d1]
  clear h1
  go_enter Tryz.func58, Tryz.ntmps58
  go_wp2_with fail
  go_ret
  exact ⟨rfl, rfl⟩
set_option maxRecDepth 100000 in
theorem near_any (v : V3) (w : World) : Calls Tryz.prog 34 #[vecV v] w (VTo (.bool (nearV v)) w) := by
 obtain ⟨x, y, z⟩ := v
 have E := enters Tryz.func58 (by kernel_rfl) rfl
 have C := Lib.hid near1_any
 have HB := Lib.hid (ext_alloc w (box3 ⟨x, y, z⟩))
 unfold nearV
 obtain ⟨a, ha⟩ : ∃ a, a = nearI x := ⟨_, rfl⟩
 obtain ⟨b, hb⟩ : ∃ a, a = nearI y := ⟨_, rfl⟩
 obtain ⟨c, hc⟩ : ∃ a, a = nearI z := ⟨_, rfl⟩
 rw [← ha, ← hb, ← hc]
 have HA := Lib.hid ha
 have HBB := Lib.hid hb
 have HC := Lib.hid hc
 clear ha hb hc
 go_enter Tryz.func34, Tryz.ntmps34
 go_wp2_with fail
 refine (C.out _ _).mono ?_
 rintro e w1 ⟨rfl, rfl⟩
 rw [← HA.out]
 cases a
 ·
  go_wp2_with fail
  go_ret
  exact ⟨rfl, HB.out⟩
 ·
  go_wp2_with fail
  refine (C.out _ _).mono ?_
  rintro e w1 ⟨rfl, rfl⟩
  rw [← HBB.out]
  cases b
  ·
   go_wp2_with fail
   go_ret
   exact ⟨rfl, HB.out⟩
  ·
   go_wp2_with fail
   refine (C.out _ _).mono ?_
   rintro e w1 ⟨rfl, rfl⟩
   rw [← HC.out]
   go_wp2_with fail
   go_ret
   exact ⟨by cases c <;> rfl, HB.out⟩
end Go.Proofs.YtdaokkgenfpmhaaGreat.MeshA

/- The walks of mesh.Check's own functions. -/
set_option linter.unusedVariables false
set_option linter.unusedSimpArgs false
namespace Go.Proofs.YtdaokkgenfpmhaaGreat.MeshB
open Go.RowKit Go.Sort FixM Base Num Qb Qt VecW VecV VecU LightQ LightC MeshM Rec MeshA

theorem idx3_0 (x y z : Int) (w : World) : (Instr.index 52 (.agg #[.int .i64 x, .int .i64 y, .int .i64 z]) (.int .i64 0)).run Tryz.prog w = .ok (.int .i64 x) w := by kernel_rfl
theorem idx3_1 (x y z : Int) (w : World) : (Instr.index 52 (.agg #[.int .i64 x, .int .i64 y, .int .i64 z]) (.int .i64 1)).run Tryz.prog w = .ok (.int .i64 y) w := by kernel_rfl
theorem idx3_2 (x y z : Int) (w : World) : (Instr.index 52 (.agg #[.int .i64 x, .int .i64 y, .int .i64 z]) (.int .i64 2)).run Tryz.prog w = .ok (.int .i64 z) w := by kernel_rfl
set_option maxRecDepth 100000 in
set_option maxHeartbeats 1000000 in
theorem has_any (n : Nat) (hn : n ≤ 9223372036854775807) (t : V3) (w : World) : Calls Tryz.prog 37 #[.int .i64 (n : Int), vecV t] w (VTo (.bool (hasF n t)) w) := by
 obtain ⟨x, y, z⟩ := t
 unfold hasF
 obtain ⟨a, ha⟩ : ∃ a, a = placeI n x := ⟨_, rfl⟩
 obtain ⟨b, hb⟩ : ∃ a, a = placeI n y := ⟨_, rfl⟩
 obtain ⟨c, hc⟩ : ∃ a, a = placeI n z := ⟨_, rfl⟩
 rw [← ha, ← hb, ← hc]
 unfold placeI at ha hb hc
 have HA := Lib.hid ha
 have HBB := Lib.hid hb
 have HC := Lib.hid hc
 clear ha hb hc
 have HB := Lib.hid (ext_alloc w (.cells #[.int .i64 x, .int .i64 y, .int .i64 z] 52))
 have I0 := fun (w : World) => idx3_0 x y z w
 have I1 := fun (w : World) => idx3_1 x y z w
 have I2 := fun (w : World) => idx3_2 x y z w
 go_enter Tryz.func37, Tryz.ntmps37
 go_wp2_with fail
 generalize w.alloc (.cells #[.int .i64 x, .int .i64 y, .int .i64 z] 52) = W at *
 go_loopg [8] 3 (fun r n8 wr => ∃ i : Int, 0 ≤ i ∧ i + (r : Int) = 3 ∧ n8 = .int .i64 i ∧ W = wr ∧ Hid ((0 < i → a = true) ∧ (1 < i → b = true) ∧ (2 < i → c = true)))
 case atStart => exact ⟨0, by omega, by omega, rfl, rfl, Lib.hid ⟨by omega, by omega, by omega⟩⟩
 case round =>
  obtain ⟨i, hi0, hir, rfl, rfl, hin⟩ := hrel
  rcases (show i = 0 ∨ i = 1 ∨ i = 2 ∨ i = 3 by omega) with rfl | rfl | rfl | rfl
  ·
   by_cases h1 : x < 0
   ·
    have d1 : decide (x < 0) = true := decide_eq_true h1
    have hh : a = false := by rw [HA.out, decide_eq_false (by omega)]; rfl
    have HH := Lib.hid hh
    clear h1 hh
    go_wp2_with fail
    go_ret
    refine ⟨?_, HB.out⟩
    have hh := HH.out
    rw [hh]; first | rfl | (cases a <;> rfl) | (cases a <;> cases b <;> rfl)
   ·
    have d1 : decide (x < 0) = false := decide_eq_false h1
    by_cases h2 : (n : Int) ≤ x
    ·
     have d2 : decide ((n : Int) ≤ x) = true := decide_eq_true h2
     have hh : a = false := by rw [HA.out, decide_eq_false (show ¬ x < (n : Int) by omega)]; cases decide (0 ≤ x) <;> rfl
     have HH := Lib.hid hh
     clear h1 hh h2
     go_wp2_with fail
     go_ret
     refine ⟨?_, HB.out⟩
     have hh := HH.out
     rw [hh]; first | rfl | (cases a <;> rfl) | (cases a <;> cases b <;> rfl)
    ·
     have d2 : decide ((n : Int) ≤ x) = false := decide_eq_false h2
     have hh : a = true := by rw [HA.out, decide_eq_true (show x < (n : Int) by omega), decide_eq_true (show 0 ≤ x by omega)]; rfl
     have HH := Lib.hid hh
     clear h1 hh h2
     go_wp2_with fail
     go_roundg 2
     case measure => omega
     case rel =>
      have hh := HH.out
      have h0 := hin.out
      exact ⟨1, by omega, by omega, rfl, rfl, Lib.hid ⟨fun _ => hh, by omega, by omega⟩⟩
  ·
   by_cases h1 : y < 0
   ·
    have d1 : decide (y < 0) = true := decide_eq_true h1
    have hh : b = false := by rw [HBB.out, decide_eq_false (by omega)]; rfl
    have HH := Lib.hid hh
    clear h1 hh
    go_wp2_with fail
    go_ret
    refine ⟨?_, HB.out⟩
    have hh := HH.out
    rw [hh]; first | rfl | (cases a <;> rfl) | (cases a <;> cases b <;> rfl)
   ·
    have d1 : decide (y < 0) = false := decide_eq_false h1
    by_cases h2 : (n : Int) ≤ y
    ·
     have d2 : decide ((n : Int) ≤ y) = true := decide_eq_true h2
     have hh : b = false := by rw [HBB.out, decide_eq_false (show ¬ y < (n : Int) by omega)]; cases decide (0 ≤ y) <;> rfl
     have HH := Lib.hid hh
     clear h1 hh h2
     go_wp2_with fail
     go_ret
     refine ⟨?_, HB.out⟩
     have hh := HH.out
     rw [hh]; first | rfl | (cases a <;> rfl) | (cases a <;> cases b <;> rfl)
    ·
     have d2 : decide ((n : Int) ≤ y) = false := decide_eq_false h2
     have hh : b = true := by rw [HBB.out, decide_eq_true (show y < (n : Int) by omega), decide_eq_true (show 0 ≤ y by omega)]; rfl
     have HH := Lib.hid hh
     clear h1 hh h2
     go_wp2_with fail
     go_roundg 1
     case measure => omega
     case rel =>
      have hh := HH.out
      have h0 := hin.out
      exact ⟨2, by omega, by omega, rfl, rfl, Lib.hid ⟨fun _ => h0.1 (by omega), fun _ => hh, by omega⟩⟩
  ·
   by_cases h1 : z < 0
   ·
    have d1 : decide (z < 0) = true := decide_eq_true h1
    have hh : c = false := by rw [HC.out, decide_eq_false (by omega)]; rfl
    have HH := Lib.hid hh
    clear h1 hh
    go_wp2_with fail
    go_ret
    refine ⟨?_, HB.out⟩
    have hh := HH.out
    rw [hh]; first | rfl | (cases a <;> rfl) | (cases a <;> cases b <;> rfl)
   ·
    have d1 : decide (z < 0) = false := decide_eq_false h1
    by_cases h2 : (n : Int) ≤ z
    ·
     have d2 : decide ((n : Int) ≤ z) = true := decide_eq_true h2
     have hh : c = false := by rw [HC.out, decide_eq_false (show ¬ z < (n : Int) by omega)]; cases decide (0 ≤ z) <;> rfl
     have HH := Lib.hid hh
     clear h1 hh h2
     go_wp2_with fail
     go_ret
     refine ⟨?_, HB.out⟩
     have hh := HH.out
     rw [hh]; first | rfl | (cases a <;> rfl) | (cases a <;> cases b <;> rfl)
    ·
     have d2 : decide ((n : Int) ≤ z) = false := decide_eq_false h2
     have hh : c = true := by rw [HC.out, decide_eq_true (show z < (n : Int) by omega), decide_eq_true (show 0 ≤ z by omega)]; rfl
     have HH := Lib.hid hh
     clear h1 hh h2
     go_wp2_with fail
     go_roundg 0
     case measure => omega
     case rel =>
      have hh := HH.out
      have h0 := hin.out
      exact ⟨3, by omega, by omega, rfl, rfl, Lib.hid ⟨fun _ => h0.1 (by omega), fun _ => h0.2.1 (by omega), fun _ => hh⟩⟩
  ·
   go_wp2_with fail
   go_ret
   have h0 := hin.out
   exact ⟨by rw [h0.1 (by omega), h0.2.1 (by omega), h0.2.2 (by omega)]; rfl, HB.out⟩

set_option maxRecDepth 100000 in
set_option maxHeartbeats 1000000 in
theorem ball_any (b : B4) (w : World) : Calls Tryz.prog 39 #[.agg #[.int .i64 b.c.x, .int .i64 b.c.y, .int .i64 b.c.z, .int .i64 b.r]] w (VTo (.bool (ballF b)) w) := by
 obtain ⟨⟨x, y, z⟩, r⟩ := b
 have C := Lib.hid (near_any ⟨x, y, z⟩)
 unfold ballF
 obtain ⟨a, ha⟩ : ∃ a, a = nearV ⟨x, y, z⟩ := ⟨_, rfl⟩
 dsimp only
 rw [← ha] at C ⊢
 clear ha
 have HB := Lib.hid (ext_alloc w (.cells #[.int .i64 x, .int .i64 y, .int .i64 z, .int .i64 r] 51))
 have H0 := heap_alloc_new w (.cells #[.int .i64 x, .int .i64 y, .int .i64 z, .int .i64 r] 51)
 obtain ⟨W, hW⟩ : ∃ W, W = w.alloc (.cells #[.int .i64 x, .int .i64 y, .int .i64 z, .int .i64 r] 51) := ⟨_, rfl⟩
 rw [← hW] at HB H0
 have HH := Lib.hid H0
 have HWW := Lib.hid hW
 clear H0 hW
 go_enter Tryz.func39, Tryz.ntmps39
 go_wp2_with fail
 rw [← HWW.out]
 refine (C.out _).mono ?_
 rintro e w1 ⟨rfl, hb1⟩
 have H1 := Lib.hid ((hb1.block _ (lt_of_heap HH.out)).trans HH.out)
 have HB1 := Lib.hid (HB.out.trans (hb1.mono HB.out.size))
 clear hb1 HB HH HWW
 have c3 := cell_row H1.out 3 (.int .i64 r) rfl
 cases a
 ·
  go_wp2_with fail
  go_ret
  exact ⟨rfl, HB1.out⟩
 ·
  by_cases h1 : 1 ≤ r
  ·
   have d1 : decide (1 ≤ r) = true := decide_eq_true h1
   obtain ⟨q, hq⟩ : ∃ q, q = decide (r ≤ 4503599627370496) := ⟨_, rfl⟩
   have d2 := hq.symm
   clear h1 hq
   go_wp2_with fail
   go_ret
   exact ⟨by rw [d1, d2]; cases q <;> rfl, HB1.out⟩
  ·
   have d1 : decide (1 ≤ r) = false := decide_eq_false h1
   clear h1
   go_wp2_with fail
   go_ret
   exact ⟨by rw [d1]; rfl, HB1.out⟩
/-- the closure of the triangles: g holds the mesh -/
theorem tri_any (t : V3) (g n : Nat) (a : Option Addr) (c : Nat) (v1 v2 : Value) (hn : n ≤ 9223372036854775807) (w : World) (hg : w.heap[g]? = some (.cells #[.slice a n c, v1, v2] 31)) :
  Calls Tryz.prog 36 #[vecV t, .pointer (some ⟨g, 0, none⟩)] w (VTo (.bool (hasF n t)) w) := by
 have C := Lib.hid (has_any n hn t)
 obtain ⟨q, hq⟩ : ∃ q, q = hasF n t := ⟨_, rfl⟩
 rw [← hq] at C ⊢
 clear hq
 obtain ⟨x, y, z⟩ := t
 have HB := Lib.hid (ext_alloc w (.cells #[.int .i64 x, .int .i64 y, .int .i64 z] 52))
 have hg2 : (w.alloc (.cells #[.int .i64 x, .int .i64 y, .int .i64 z] 52)).heap[g]? = some (.cells #[.slice a n c, v1, v2] 31) := (heap_alloc_old _ _ (lt_of_heap hg)).trans hg
 have c0 := cell_row hg2 0 (.slice a n c) rfl
 clear hg hg2
 go_enter Tryz.func36, Tryz.ntmps36
 go_wp2_with fail
 refine (C.out _).mono ?_
 rintro e w1 ⟨rfl, hb1⟩
 have HB1 := Lib.hid (HB.out.trans (hb1.mono HB.out.size))
 clear hb1 c0
 go_wp2_with fail
 go_ret
 exact ⟨rfl, HB1.out⟩

theorem size_recV : (Tryz.prog.info? 46).map (·.size) = some 3 := by kernel_rfl
theorem store_recV {ops : Array Oper} {rest : List Oper} {o : Oper} {a : Act} {w : World} {Q : Exit → Act → World → Prop} (hgd : o.guard = none) (x y : Operand) (ho : o.op = .store 46 x y) (hd : o.dst = none)
  (g : Nat) (x1 x2 x3 : Int) (hx : a.eval x = .pointer (some ⟨g, 0, none⟩)) (hy : a.eval y = .agg #[.int .i64 x1, .int .i64 x2, .int .i64 x3]) (cur : Array Value) (hg : w.heap[g]? = some (.cells cur 46)) (hc : cur.size = 3)
  (h : wpList Tryz.prog ops Q rest a (w.setRow g #[.int .i64 x1, .int .i64 x2, .int .i64 x3])) : wpList Tryz.prog ops Q (o :: rest) a w :=
 wpList_store_arr hgd 46 x y ho g _ hx hy 46 cur hg size_recV (by rw [hc]; rfl) (by intro v hv; simp at hv; rcases hv with rfl | rfl | rfl <;> rfl) hd h

theorem size_recT : (Tryz.prog.info? 52).map (·.size) = some 3 := by kernel_rfl
theorem store_recT {ops : Array Oper} {rest : List Oper} {o : Oper} {a : Act} {w : World} {Q : Exit → Act → World → Prop} (hgd : o.guard = none) (x y : Operand) (ho : o.op = .store 52 x y) (hd : o.dst = none)
  (g : Nat) (x1 x2 x3 : Int) (hx : a.eval x = .pointer (some ⟨g, 0, none⟩)) (hy : a.eval y = .agg #[.int .i64 x1, .int .i64 x2, .int .i64 x3]) (cur : Array Value) (hg : w.heap[g]? = some (.cells cur 52)) (hc : cur.size = 3)
  (h : wpList Tryz.prog ops Q rest a (w.setRow g #[.int .i64 x1, .int .i64 x2, .int .i64 x3])) : wpList Tryz.prog ops Q (o :: rest) a w :=
 wpList_store_arr hgd 52 x y ho g _ hx hy 52 cur hg size_recT (by rw [hc]; rfl) (by intro v hv; simp at hv; rcases hv with rfl | rfl | rfl <;> rfl) hd h

theorem size_recB : (Tryz.prog.info? 51).map (·.size) = some 4 := by kernel_rfl
theorem store_recB {ops : Array Oper} {rest : List Oper} {o : Oper} {a : Act} {w : World} {Q : Exit → Act → World → Prop} (hgd : o.guard = none) (x y : Operand) (ho : o.op = .store 51 x y) (hd : o.dst = none)
  (g : Nat) (x1 x2 x3 x4 : Int) (hx : a.eval x = .pointer (some ⟨g, 0, none⟩)) (hy : a.eval y = .agg #[.int .i64 x1, .int .i64 x2, .int .i64 x3, .int .i64 x4]) (cur : Array Value) (hg : w.heap[g]? = some (.cells cur 51)) (hc : cur.size = 4)
  (h : wpList Tryz.prog ops Q rest a (w.setRow g #[.int .i64 x1, .int .i64 x2, .int .i64 x3, .int .i64 x4])) : wpList Tryz.prog ops Q (o :: rest) a w :=
 wpList_store_arr hgd 51 x y ho g _ hx hy 51 cur hg size_recB (by rw [hc]; rfl) (by intro v hv; simp at hv; rcases hv with rfl | rfl | rfl | rfl <;> rfl) hd h

set_option maxRecDepth 100000 in
set_option maxHeartbeats 2000000 in
theorem allV_any (k : Nat) (cap : Array Value) (F : V3 → Bool) (v : Value) (l : List V3) (w : World) (hv : Recs 3 enc3 w v l)
  (hen : ∀ args w, (callFunc k args).run Tryz.prog w = .ok (.enter k args) w)
  (hF : ∀ x w', Below w.heap.size w w' → Calls Tryz.prog k (#[vecV x] ++ cap) w' (VTo (.bool (F x)) w')) :
  Calls Tryz.prog 33 #[v, .func (.func k) #[] cap] w (VTo (.bool (l.all F)) w) := by
 obtain ⟨a, c, rfl, hlen, -⟩ := hv.open_
 have HV := Lib.hid hv
 have HF := Lib.hid hF
 clear hv hF
 go_enter Tryz.func33, Tryz.ntmps33
 go_wp2_with fail
 go_loopg [9] l.length (fun r n9 wr => ∃ i : Nat, i + r = l.length ∧ n9 = .int .i64 (i : Int) ∧ Hid ((∀ j (h : j < l.length), j < i → F l[j] = true) ∧ Below w.heap.size w wr))
 case atStart => exact ⟨0, by omega, rfl, Lib.hid ⟨by omega, Below.refl _ _⟩⟩
 case round =>
  obtain ⟨i, hir, rfl, hin⟩ := hrel
  by_cases hi : i < l.length
  ·
   have hv1 := HV.out.below hin.out.2 (Nat.le_refl _)
   obtain ⟨b, off, e, hb, p0, p1, p2⟩ := at3 hv1 i hi
   subst e
   obtain ⟨u, hu⟩ : ∃ u, u = l[i] := ⟨_, rfl⟩
   rw [← hu] at p0 p1 p2
   have HU := Lib.hid hu
   clear hu hv1
   have d1 : decide ((i : Int) < (l.length : Int)) = true := decide_eq_true (by omega)
   obtain ⟨W, hW⟩ : ∃ W, W = (wr.alloc (.cells #[.int .i64 0, .int .i64 0, .int .i64 0] 46)).setRow wr.heap.size #[.int .i64 u.x, .int .i64 u.y, .int .i64 u.z] := ⟨_, rfl⟩
   have G := Lib.hid (show W.heap[wr.heap.size]? = some (.cells #[.int .i64 u.x, .int .i64 u.y, .int .i64 u.z] 46) by rw [hW]; exact setRow_heap _ _ _ _ _ _ (heap_alloc_new _ _))
   have B := Lib.hid (hin.out.2.trans ((show Below wr.heap.size wr W by rw [hW]; exact below_setRow (ext_alloc _ _) (Nat.le_refl _) _).mono hin.out.2.size))
   have C := Lib.hid (HF.out u W B.out)
   obtain ⟨q, hq⟩ : ∃ q, q = F u := ⟨_, rfl⟩
   rw [← hq] at C
   have HQ := Lib.hid hq
   have HWW := Lib.hid hW
   have HI := Lib.hid hi
   have HR := Lib.hid hir
   clear hq hW hir
   obtain ⟨x, y, z⟩ := u
   go_upto_region 4 with (with_reducible refine store_recV rfl (.tmp 6) (.tmp 12) rfl rfl wr.heap.size x y z rfl rfl _ (heap_alloc_new _ _) rfl ?_)
   rw [← HWW.out]
   clear HWW p0 p1 p2 d1
   obtain ⟨e0, e1, e2⟩ : W.cell? ⟨wr.heap.size, 0, none⟩ = some (.int .i64 x) ∧ W.cell? ⟨wr.heap.size, 1, none⟩ = some (.int .i64 y) ∧ W.cell? ⟨wr.heap.size, 2, none⟩ = some (.int .i64 z) := ⟨cell_row G.out 0 _ rfl, cell_row G.out 1 _ rfl, cell_row G.out 2 _ rfl⟩
   go_wp2_with fail
   refine C.out.mono ?_
   rintro e w2 ⟨rfl, hb2⟩
   have B2 := Lib.hid (B.out.trans (hb2.mono B.out.size))
   clear hb2 C e0 e1 e2
   cases q
   ·
    go_wp2_with fail
    go_ret
    refine ⟨?_, B2.out⟩
    have hq := HQ.out
    have hu := HU.out
    have hall : l.all F = false := by
     rw [← Bool.not_eq_true]
     intro hall
     have := List.all_eq_true.1 hall _ (hu ▸ List.getElem_mem HI.out)
     rw [← hq] at this
     cases this
    rw [hall]; rfl
   ·
    go_wp2_with fail
    go_roundg (l.length - (i + 1))
    case measure => have := HR.out; have := HI.out; omega
    case rel =>
     refine ⟨i + 1, by have := HR.out; have := HI.out; omega, by go_num, Lib.hid ⟨fun j h hj => ?_, B2.out⟩⟩
     by_cases e : j = i
     ·
      subst e
      have hq := HQ.out
      have hu := HU.out
      rw [← hu, ← hq]
     ·
      exact hin.out.1 j h (by omega)
  ·
   have d1 : decide ((i : Int) < (l.length : Int)) = false := decide_eq_false (by omega)
   go_wp2_with fail
   go_ret
   refine ⟨?_, hin.out.2⟩
   have hall : l.all F = true := by
    rw [List.all_eq_true]
    intro x hx
    obtain ⟨j, hj, rfl⟩ := List.mem_iff_getElem.1 hx
    exact hin.out.1 j hj (by omega)
   rw [hall]; rfl

set_option maxRecDepth 100000 in
set_option maxHeartbeats 2000000 in
theorem allT_any (k : Nat) (cap : Array Value) (F : V3 → Bool) (v : Value) (l : List V3) (w : World) (hv : Recs 3 enc3 w v l)
  (hen : ∀ args w, (callFunc k args).run Tryz.prog w = .ok (.enter k args) w)
  (hF : ∀ x w', Below w.heap.size w w' → Calls Tryz.prog k (#[vecV x] ++ cap) w' (VTo (.bool (F x)) w')) :
  Calls Tryz.prog 35 #[v, .func (.func k) #[] cap] w (VTo (.bool (l.all F)) w) := by
 obtain ⟨a, c, rfl, hlen, -⟩ := hv.open_
 have HV := Lib.hid hv
 have HF := Lib.hid hF
 clear hv hF
 go_enter Tryz.func35, Tryz.ntmps35
 go_wp2_with fail
 go_loopg [9] l.length (fun r n9 wr => ∃ i : Nat, i + r = l.length ∧ n9 = .int .i64 (i : Int) ∧ Hid ((∀ j (h : j < l.length), j < i → F l[j] = true) ∧ Below w.heap.size w wr))
 case atStart => exact ⟨0, by omega, rfl, Lib.hid ⟨by omega, Below.refl _ _⟩⟩
 case round =>
  obtain ⟨i, hir, rfl, hin⟩ := hrel
  by_cases hi : i < l.length
  ·
   have hv1 := HV.out.below hin.out.2 (Nat.le_refl _)
   obtain ⟨b, off, e, hb, p0, p1, p2⟩ := at3 hv1 i hi
   subst e
   obtain ⟨u, hu⟩ : ∃ u, u = l[i] := ⟨_, rfl⟩
   rw [← hu] at p0 p1 p2
   have HU := Lib.hid hu
   clear hu hv1
   have d1 : decide ((i : Int) < (l.length : Int)) = true := decide_eq_true (by omega)
   obtain ⟨W, hW⟩ : ∃ W, W = (wr.alloc (.cells #[.int .i64 0, .int .i64 0, .int .i64 0] 52)).setRow wr.heap.size #[.int .i64 u.x, .int .i64 u.y, .int .i64 u.z] := ⟨_, rfl⟩
   have G := Lib.hid (show W.heap[wr.heap.size]? = some (.cells #[.int .i64 u.x, .int .i64 u.y, .int .i64 u.z] 52) by rw [hW]; exact setRow_heap _ _ _ _ _ _ (heap_alloc_new _ _))
   have B := Lib.hid (hin.out.2.trans ((show Below wr.heap.size wr W by rw [hW]; exact below_setRow (ext_alloc _ _) (Nat.le_refl _) _).mono hin.out.2.size))
   have C := Lib.hid (HF.out u W B.out)
   obtain ⟨q, hq⟩ : ∃ q, q = F u := ⟨_, rfl⟩
   rw [← hq] at C
   have HQ := Lib.hid hq
   have HWW := Lib.hid hW
   have HI := Lib.hid hi
   have HR := Lib.hid hir
   clear hq hW hir
   obtain ⟨x, y, z⟩ := u
   go_upto_region 4 with (with_reducible refine store_recT rfl (.tmp 6) (.tmp 12) rfl rfl wr.heap.size x y z rfl rfl _ (heap_alloc_new _ _) rfl ?_)
   rw [← HWW.out]
   clear HWW p0 p1 p2 d1
   obtain ⟨e0, e1, e2⟩ : W.cell? ⟨wr.heap.size, 0, none⟩ = some (.int .i64 x) ∧ W.cell? ⟨wr.heap.size, 1, none⟩ = some (.int .i64 y) ∧ W.cell? ⟨wr.heap.size, 2, none⟩ = some (.int .i64 z) := ⟨cell_row G.out 0 _ rfl, cell_row G.out 1 _ rfl, cell_row G.out 2 _ rfl⟩
   go_wp2_with fail
   refine C.out.mono ?_
   rintro e w2 ⟨rfl, hb2⟩
   have B2 := Lib.hid (B.out.trans (hb2.mono B.out.size))
   clear hb2 C e0 e1 e2
   cases q
   ·
    go_wp2_with fail
    go_ret
    refine ⟨?_, B2.out⟩
    have hq := HQ.out
    have hu := HU.out
    have hall : l.all F = false := by
     rw [← Bool.not_eq_true]
     intro hall
     have := List.all_eq_true.1 hall _ (hu ▸ List.getElem_mem HI.out)
     rw [← hq] at this
     cases this
    rw [hall]; rfl
   ·
    go_wp2_with fail
    go_roundg (l.length - (i + 1))
    case measure => have := HR.out; have := HI.out; omega
    case rel =>
     refine ⟨i + 1, by have := HR.out; have := HI.out; omega, by go_num, Lib.hid ⟨fun j h hj => ?_, B2.out⟩⟩
     by_cases e : j = i
     ·
      subst e
      have hq := HQ.out
      have hu := HU.out
      rw [← hu, ← hq]
     ·
      exact hin.out.1 j h (by omega)
  ·
   have d1 : decide ((i : Int) < (l.length : Int)) = false := decide_eq_false (by omega)
   go_wp2_with fail
   go_ret
   refine ⟨?_, hin.out.2⟩
   have hall : l.all F = true := by
    rw [List.all_eq_true]
    intro x hx
    obtain ⟨j, hj, rfl⟩ := List.mem_iff_getElem.1 hx
    exact hin.out.1 j hj (by omega)
   rw [hall]; rfl

set_option maxRecDepth 100000 in
set_option maxHeartbeats 2000000 in
theorem allB_any (k : Nat) (cap : Array Value) (F : B4 → Bool) (v : Value) (l : List B4) (w : World) (hv : Recs 4 enc4 w v l)
  (hen : ∀ args w, (callFunc k args).run Tryz.prog w = .ok (.enter k args) w)
  (hF : ∀ x w', Below w.heap.size w w' → Calls Tryz.prog k (#[.agg #[.int .i64 x.c.x, .int .i64 x.c.y, .int .i64 x.c.z, .int .i64 x.r]] ++ cap) w' (VTo (.bool (F x)) w')) :
  Calls Tryz.prog 38 #[v, .func (.func k) #[] cap] w (VTo (.bool (l.all F)) w) := by
 obtain ⟨a, c, rfl, hlen, -⟩ := hv.open_
 have HV := Lib.hid hv
 have HF := Lib.hid hF
 clear hv hF
 go_enter Tryz.func38, Tryz.ntmps38
 go_wp2_with fail
 go_loopg [9] l.length (fun r n9 wr => ∃ i : Nat, i + r = l.length ∧ n9 = .int .i64 (i : Int) ∧ Hid ((∀ j (h : j < l.length), j < i → F l[j] = true) ∧ Below w.heap.size w wr))
 case atStart => exact ⟨0, by omega, rfl, Lib.hid ⟨by omega, Below.refl _ _⟩⟩
 case round =>
  obtain ⟨i, hir, rfl, hin⟩ := hrel
  by_cases hi : i < l.length
  ·
   have hv1 := HV.out.below hin.out.2 (Nat.le_refl _)
   obtain ⟨b, off, e, hb, p0, p1, p2, p3⟩ := at4 hv1 i hi
   subst e
   obtain ⟨u, hu⟩ : ∃ u, u = l[i] := ⟨_, rfl⟩
   rw [← hu] at p0 p1 p2 p3
   have HU := Lib.hid hu
   clear hu hv1
   have d1 : decide ((i : Int) < (l.length : Int)) = true := decide_eq_true (by omega)
   obtain ⟨W, hW⟩ : ∃ W, W = (wr.alloc (.cells #[.int .i64 0, .int .i64 0, .int .i64 0, .int .i64 0] 51)).setRow wr.heap.size #[.int .i64 u.c.x, .int .i64 u.c.y, .int .i64 u.c.z, .int .i64 u.r] := ⟨_, rfl⟩
   have G := Lib.hid (show W.heap[wr.heap.size]? = some (.cells #[.int .i64 u.c.x, .int .i64 u.c.y, .int .i64 u.c.z, .int .i64 u.r] 51) by rw [hW]; exact setRow_heap _ _ _ _ _ _ (heap_alloc_new _ _))
   have B := Lib.hid (hin.out.2.trans ((show Below wr.heap.size wr W by rw [hW]; exact below_setRow (ext_alloc _ _) (Nat.le_refl _) _).mono hin.out.2.size))
   have C := Lib.hid (HF.out u W B.out)
   obtain ⟨q, hq⟩ : ∃ q, q = F u := ⟨_, rfl⟩
   rw [← hq] at C
   have HQ := Lib.hid hq
   have HWW := Lib.hid hW
   have HI := Lib.hid hi
   have HR := Lib.hid hir
   clear hq hW hir
   obtain ⟨⟨x, y, z⟩, s⟩ := u
   go_upto_region 4 with (with_reducible refine store_recB rfl (.tmp 6) (.tmp 12) rfl rfl wr.heap.size x y z s rfl rfl _ (heap_alloc_new _ _) rfl ?_)
   rw [← HWW.out]
   clear HWW p0 p1 p2 p3 d1
   obtain ⟨e0, e1, e2, e3⟩ : W.cell? ⟨wr.heap.size, 0, none⟩ = some (.int .i64 x) ∧ W.cell? ⟨wr.heap.size, 1, none⟩ = some (.int .i64 y) ∧ W.cell? ⟨wr.heap.size, 2, none⟩ = some (.int .i64 z) ∧ W.cell? ⟨wr.heap.size, 3, none⟩ = some (.int .i64 s) := ⟨cell_row G.out 0 _ rfl, cell_row G.out 1 _ rfl, cell_row G.out 2 _ rfl, cell_row G.out 3 _ rfl⟩
   go_wp2_with fail
   refine C.out.mono ?_
   rintro e w2 ⟨rfl, hb2⟩
   have B2 := Lib.hid (B.out.trans (hb2.mono B.out.size))
   clear hb2 C e0 e1 e2 e3
   cases q
   ·
    go_wp2_with fail
    go_ret
    refine ⟨?_, B2.out⟩
    have hq := HQ.out
    have hu := HU.out
    have hall : l.all F = false := by
     rw [← Bool.not_eq_true]
     intro hall
     have := List.all_eq_true.1 hall _ (hu ▸ List.getElem_mem HI.out)
     rw [← hq] at this
     cases this
    rw [hall]; rfl
   ·
    go_wp2_with fail
    go_roundg (l.length - (i + 1))
    case measure => have := HR.out; have := HI.out; omega
    case rel =>
     refine ⟨i + 1, by have := HR.out; have := HI.out; omega, by go_num, Lib.hid ⟨fun j h hj => ?_, B2.out⟩⟩
     by_cases e : j = i
     ·
      subst e
      have hq := HQ.out
      have hu := HU.out
      rw [← hu, ← hq]
     ·
      exact hin.out.1 j h (by omega)
  ·
   have d1 : decide ((i : Int) < (l.length : Int)) = false := decide_eq_false (by omega)
   go_wp2_with fail
   go_ret
   refine ⟨?_, hin.out.2⟩
   have hall : l.all F = true := by
    rw [List.all_eq_true]
    intro x hx
    obtain ⟨j, hj, rfl⟩ := List.mem_iff_getElem.1 hx
    exact hin.out.1 j hj (by omega)
   rw [hall]; rfl

end Go.Proofs.YtdaokkgenfpmhaaGreat.MeshB

/- The walks of mesh.Check and Count. -/
set_option linter.unusedVariables false
set_option linter.unusedSimpArgs false
namespace Go.Proofs.YtdaokkgenfpmhaaGreat.MeshC
open Go.RowKit Go.Sort FixM Base Num Qb Qt VecW VecV VecU LightQ LightC MeshM Rec MeshA MeshB

theorem wrap_in {x : Int} (h1 : -9223372036854775808 ≤ x) (h2 : x ≤ 9223372036854775807) : IntKind.i64.wrap x = x := by
 show (if IntKind.i64.signed && decide (x % 18446744073709551616 ≥ 9223372036854775808) then x % 18446744073709551616 - 18446744073709551616 else x % 18446744073709551616) = x
 simp [IntKind.signed]; omega
theorem hmf (fn : Fn) (first cap : Array Value) (w : World) : (Instr.makeFunc fn first cap).run Tryz.prog w = .ok (.func fn first cap) w := rfl
set_option maxRecDepth 100000 in
set_option maxHeartbeats 4000000 in
theorem check_any (v : Value) (m : Msh) (w : World) (hm : IsMesh w v m) : Calls Tryz.prog 18 #[v] w (VTo (.int .i64 (checkF m)) w) := by
 obtain ⟨a0, c0, a1, c1, a2, c2, rfl, h0, h1, h2, l0, l1, l2⟩ := hm.open_
 obtain ⟨W, hW⟩ : ∃ W, W = w.alloc (.cells #[.slice a0 m.ps.length c0, .slice a1 m.ts.length c1, .slice a2 m.bs.length c2] 31) := ⟨_, rfl⟩
 have hB : Below w.heap.size w W := by rw [hW]; exact ext_alloc _ _
 have hR : W.heap[w.heap.size]? = some (.cells #[.slice a0 m.ps.length c0, .slice a1 m.ts.length c1, .slice a2 m.bs.length c2] 31) := by rw [hW]; exact heap_alloc_new _ _
 have k0 := cell_row hR 0 (.slice a0 m.ps.length c0) rfl
 have k1 := cell_row hR 1 (.slice a1 m.ts.length c1) rfl
 have k2 := cell_row hR 2 (.slice a2 m.bs.length c2) rfl
 have A0 := Lib.hid (allV_any 34 #[] nearV _ m.ps W (h0.below hB (Nat.le_refl _)) (enters Tryz.func34 (by kernel_rfl) rfl) (fun x w' _ => near_any x w'))
 have A1 := Lib.hid (fun W' (hb : Below W.heap.size W W') => allT_any 36 #[.pointer (some ⟨w.heap.size, 0, none⟩)] (hasF m.ps.length) _ m.ts W' ((h1.below hB (Nat.le_refl _)).below hb (Nat.le_refl _)) (enters Tryz.func36 (by kernel_rfl) rfl)
  (fun x w' hb' => tri_any x w.heap.size m.ps.length a0 c0 (.slice a1 m.ts.length c1) (.slice a2 m.bs.length c2) l0 w' ((hb'.block _ (Nat.lt_of_lt_of_le (lt_of_heap hR) hb.size)).trans ((hb.block _ (lt_of_heap hR)).trans hR))))
 have A2 := Lib.hid (fun W' (hb : Below W.heap.size W W') => allB_any 39 #[] ballF _ m.bs W' ((h2.below hB (Nat.le_refl _)).below hb (Nat.le_refl _)) (enters Tryz.func39 (by kernel_rfl) rfl) (fun x w' _ => ball_any x w'))
 have hF : checkF m = if tooF m then 14 else if (m.ps.all nearV && m.ts.all (hasF m.ps.length) && m.bs.all ballF) then 0 else 14 := rfl
 have HF := Lib.hid hF
 have HTF := Lib.hid (show tooF m ↔ (4096 < m.ps.length ∨ 4096 < m.ts.length + m.bs.length) from Iff.rfl)
 obtain ⟨r, hr⟩ : ∃ r, r = checkF m := ⟨_, rfl⟩
 rw [← hr] at HF ⊢
 clear hF hr
 obtain ⟨b0, hb0⟩ : ∃ b, b = m.ps.all nearV := ⟨_, rfl⟩
 obtain ⟨b1, hb1⟩ : ∃ b, b = m.ts.all (hasF m.ps.length) := ⟨_, rfl⟩
 obtain ⟨b2, hb2⟩ : ∃ b, b = m.bs.all ballF := ⟨_, rfl⟩
 rw [← hb0] at A0 HF
 rw [← hb1] at A1 HF
 rw [← hb2] at A2 HF
 clear hb0 hb1 hb2 hm h0 h1 h2
 have HMF := hmf
 obtain ⟨n0, hn0⟩ : ∃ n, n = m.ps.length := ⟨_, rfl⟩
 obtain ⟨n1, hn1⟩ : ∃ n, n = m.ts.length := ⟨_, rfl⟩
 obtain ⟨n2, hn2⟩ : ∃ n, n = m.bs.length := ⟨_, rfl⟩
 rw [← hn0, ← hn1, ← hn2] at HTF
 rw [← hn0, ← hn1, ← hn2] at hR hW
 rw [← hn0] at k0 A0 l0
 rw [← hn1] at k1 A1 l1
 rw [← hn2] at k2 A2 l2
 rw [← hn0, ← hn1, ← hn2]
 have HR := Lib.hid hR
 have HB := Lib.hid hB
 have HWW := Lib.hid hW
 clear hn0 hn1 hn2 hR hB hW
 by_cases h0 : 4096 < n0
 ·
  have d0 : decide (4096 < (n0 : Int)) = true := decide_eq_true (by omega)
  have er : r = 14 := by rw [HF.out, if_pos (HTF.out.2 (.inl h0))]
  clear h0
  subst er
  rw [HWW.out] at k0 HB
  go_enter Tryz.func18, Tryz.ntmps18
  go_wp2_with fail
  go_ret
  exact ⟨rfl, HB.out⟩
 ·
  have d0 : decide (4096 < (n0 : Int)) = false := decide_eq_false (by omega)
  by_cases h1 : 4096 < n1
  ·
   have d1 : decide (4096 < (n1 : Int)) = true := decide_eq_true (by omega)
   have er : r = 14 := by rw [HF.out, if_pos (HTF.out.2 (.inr (by omega)))]
   clear h0 h1
   subst er
   rw [HWW.out] at k0 k1 HB
   go_enter Tryz.func18, Tryz.ntmps18
   go_wp2_with fail
   go_ret
   exact ⟨rfl, HB.out⟩
  ·
   have d1 : decide (4096 < (n1 : Int)) = false := decide_eq_false (by omega)
   have wr : IntKind.i64.wrap (4096 - (n1 : Int)) = 4096 - (n1 : Int) := wrap_in (by omega) (by omega)
   by_cases h2 : 4096 < n1 + n2
   ·
    have d2 : decide (4096 - (n1 : Int) < (n2 : Int)) = true := decide_eq_true (by omega)
    have er : r = 14 := by rw [HF.out, if_pos (HTF.out.2 (.inr h2))]
    clear h0 h1 h2
    subst er
    rw [HWW.out] at k0 k1 k2 HB
    go_enter Tryz.func18, Tryz.ntmps18
    go_wp2_with fail
    go_ret
    exact ⟨rfl, HB.out⟩
   ·
    have d2 : decide (4096 - (n1 : Int) < (n2 : Int)) = false := decide_eq_false (by omega)
    have er : r = if (b0 && b1 && b2) = true then 0 else 14 := by rw [HF.out, if_neg (fun h => by have := HTF.out.1 h; omega)]
    have HE := Lib.hid er
    clear h0 h1 h2 er HF HTF
    rw [HWW.out] at k0 k1 k2
    go_enter Tryz.func18, Tryz.ntmps18
    go_wp2_with fail
    rw [← HWW.out]
    clear k0 k1 k2
    refine A0.out.mono ?_
    rintro e w1 ⟨rfl, hb1⟩
    have HB1 := Lib.hid hb1
    have k1 := (hb1.cell (p := ⟨w.heap.size, 1, none⟩) (lt_of_heap HR.out)).trans (cell_row HR.out 1 (.slice a1 n1 c1) rfl)
    clear hb1
    cases b0
    ·
     have he : r = 14 := by rw [HE.out]; rfl
     subst he
     go_wp2_with fail
     go_ret
     exact ⟨rfl, HB.out.trans (HB1.out.mono HB.out.size)⟩
    ·
     go_wp2_with fail
     refine (A1.out _ HB1.out).mono ?_
     rintro e w2 ⟨rfl, hb2⟩
     have HB2 := Lib.hid (HB1.out.trans (hb2.mono HB1.out.size))
     clear hb2 k1
     have k2 := (HB2.out.cell (p := ⟨w.heap.size, 2, none⟩) (lt_of_heap HR.out)).trans (cell_row HR.out 2 (.slice a2 n2 c2) rfl)
     cases b1
     ·
      have he : r = 14 := by rw [HE.out]; rfl
      subst he
      go_wp2_with fail
      go_ret
      exact ⟨rfl, HB.out.trans (HB2.out.mono HB.out.size)⟩
     ·
      go_wp2_with fail
      refine (A2.out _ HB2.out).mono ?_
      rintro e w3 ⟨rfl, hb3⟩
      have HB3 := Lib.hid (HB2.out.trans (hb3.mono HB2.out.size))
      clear hb3 k2
      cases b2
      ·
       have he : r = 14 := by rw [HE.out]; rfl
       subst he
       go_wp2_with fail
       go_ret
       exact ⟨rfl, HB.out.trans (HB3.out.mono HB.out.size)⟩
      ·
       have he : r = 0 := by rw [HE.out]; rfl
       subst he
       go_wp2_with fail
       go_ret
       exact ⟨rfl, HB.out.trans (HB3.out.mono HB.out.size)⟩
set_option maxRecDepth 100000 in
theorem count_any (v : Value) (m : Msh) (w : World) (hm : IsMesh w v m) (hl : m.ts.length + m.bs.length ≤ 9223372036854775807) : Calls Tryz.prog 22 #[v] w (VTo (.int .i64 ((m.ts.length + m.bs.length : Nat) : Int)) w) := by
 obtain ⟨a0, c0, a1, c1, a2, c2, rfl, h0, h1, h2, l0, l1, l2⟩ := hm.open_
 have HB := Lib.hid (ext_alloc w (.cells #[.slice a0 m.ps.length c0, .slice a1 m.ts.length c1, .slice a2 m.bs.length c2] 31))
 have hR := heap_alloc_new w (.cells #[.slice a0 m.ps.length c0, .slice a1 m.ts.length c1, .slice a2 m.bs.length c2] 31)
 have k1 := cell_row hR 1 (.slice a1 m.ts.length c1) rfl
 have k2 := cell_row hR 2 (.slice a2 m.bs.length c2) rfl
 have wr : IntKind.i64.wrap ((m.ts.length : Int) + (m.bs.length : Int)) = ((m.ts.length + m.bs.length : Nat) : Int) := by rw [wrap_in (by omega) (by omega)]; omega
 obtain ⟨N, hN⟩ : ∃ N : Int, N = ((m.ts.length + m.bs.length : Nat) : Int) := ⟨_, rfl⟩
 rw [← hN] at wr ⊢
 clear hR h0 h1 h2 hm hl hN
 go_enter Tryz.func22, Tryz.ntmps22
 go_wp2_with fail
 go_ret
 exact ⟨rfl, HB.out⟩
set_option maxRecDepth 100000 in
theorem rcount_any (v : Value) (m : Msh) (w : World) (hm : IsMesh w v m) (hl : m.ts.length + m.bs.length ≤ 9223372036854775807) : Calls Tryz.prog 26 #[v] w (VTo (.int .i64 ((m.ts.length + m.bs.length : Nat) : Int)) w) := by
 obtain ⟨a0, c0, a1, c1, a2, c2, rfl, h0, h1, h2, l0, l1, l2⟩ := hm.open_
 have HB := Lib.hid (ext_alloc w (.cells #[.slice a0 m.ps.length c0, .slice a1 m.ts.length c1, .slice a2 m.bs.length c2] 31))
 have hR := heap_alloc_new w (.cells #[.slice a0 m.ps.length c0, .slice a1 m.ts.length c1, .slice a2 m.bs.length c2] 31)
 have k1 := cell_row hR 1 (.slice a1 m.ts.length c1) rfl
 have k2 := cell_row hR 2 (.slice a2 m.bs.length c2) rfl
 have wr : IntKind.i64.wrap ((m.ts.length : Int) + (m.bs.length : Int)) = ((m.ts.length + m.bs.length : Nat) : Int) := by rw [wrap_in (by omega) (by omega)]; omega
 obtain ⟨N, hN⟩ : ∃ N : Int, N = ((m.ts.length + m.bs.length : Nat) : Int) := ⟨_, rfl⟩
 rw [← hN] at wr ⊢
 clear hR h0 h1 h2 hm hl hN
 go_enter Tryz.func26, Tryz.ntmps26
 go_wp2_with fail
 go_ret
 exact ⟨rfl, HB.out⟩
end Go.Proofs.YtdaokkgenfpmhaaGreat.MeshC

/- The walks of ref12's near, there and Check. -/
set_option linter.unusedVariables false
set_option linter.unusedSimpArgs false
namespace Go.Proofs.YtdaokkgenfpmhaaGreat.MeshD
open Go.RowKit Go.Sort FixM Base Num Qb Qt VecW VecV VecU LightQ LightC MeshM Rec MeshA MeshB MeshC

theorem vec_step {W W' : World} {g : Nat} {o : Obj} (h : W.heap[g]? = some o) (hb : Below W.heap.size W W') : W'.heap[g]? = some o := (hb.block _ (lt_of_heap h)).trans h

set_option maxRecDepth 100000 in
theorem rnear_any (x : Int) (w : World) : Calls Tryz.prog 44 #[.int .i64 x] w (fun e w' => e = .returned (.bool (nearI x)) ∧ w = w') := by
 unfold nearI
 by_cases h1 : -4503599627370496 ≤ x
 ·
  by_cases h2 : x ≤ 4503599627370496
  ·
   have d1 : decide (-4503599627370496 ≤ x) = true := decide_eq_true h1
   have d2 : decide (x ≤ 4503599627370496) = true := decide_eq_true h2
   rw [d1, d2]
   clear h1 h2
   go_enter Tryz.func44, Tryz.ntmps44
   go_wp2_with fail
   go_ret
   exact ⟨rfl, rfl⟩
  ·
   have d1 : decide (-4503599627370496 ≤ x) = true := decide_eq_true h1
   have d2 : decide (x ≤ 4503599627370496) = false := decide_eq_false h2
   rw [d1, d2]
   clear h1 h2
   go_enter Tryz.func44, Tryz.ntmps44
   go_wp2_with fail
   go_ret
   exact ⟨rfl, rfl⟩
 ·
  have d1 : decide (-4503599627370496 ≤ x) = false := decide_eq_false h1
  rw [d1]
  clear h1
  go_enter Tryz.func44, Tryz.ntmps44
  go_wp2_with fail
  go_ret
  exact ⟨rfl, rfl⟩

set_option maxRecDepth 100000 in
set_option maxHeartbeats 1000000 in
theorem there_any (a0 : Option Addr) (n c0 : Nat) (v1 v2 : Value) (hn : n ≤ 9223372036854775807) (t : V3) (w : World) : Calls Tryz.prog 45 #[.agg #[.slice a0 n c0, v1, v2], vecV t] w (VTo (.bool (hasF n t)) w) := by
 obtain ⟨x, y, z⟩ := t
 unfold hasF
 obtain ⟨a, ha⟩ : ∃ a, a = placeI n x := ⟨_, rfl⟩
 obtain ⟨b, hb⟩ : ∃ a, a = placeI n y := ⟨_, rfl⟩
 obtain ⟨c, hc⟩ : ∃ a, a = placeI n z := ⟨_, rfl⟩
 rw [← ha, ← hb, ← hc]
 unfold placeI at ha hb hc
 have HA := Lib.hid ha
 have HBB := Lib.hid hb
 have HC := Lib.hid hc
 clear ha hb hc
 have HB := Lib.hid (alloc2_below w (.cells #[.slice a0 n c0, v1, v2] 31) (.cells #[.int .i64 x, .int .i64 y, .int .i64 z] 52))
 have G0 := Lib.hid (alloc2_0 w (.cells #[.slice a0 n c0, v1, v2] 31) (.cells #[.int .i64 x, .int .i64 y, .int .i64 z] 52))
 have G1 := Lib.hid (alloc2_1 w (.cells #[.slice a0 n c0, v1, v2] 31) (.cells #[.int .i64 x, .int .i64 y, .int .i64 z] 52))
 go_enter Tryz.func45, Tryz.ntmps45
 go_wp2_with fail
 generalize (w.alloc (.cells #[.slice a0 n c0, v1, v2] 31)).alloc (.cells #[.int .i64 x, .int .i64 y, .int .i64 z] 52) = W at *
 go_loopg [5] 3 (fun r n8 wr => ∃ i : Int, 0 ≤ i ∧ i + (r : Int) = 3 ∧ n8 = .int .i64 i ∧ Below W.heap.size W wr ∧ Hid ((0 < i → a = true) ∧ (1 < i → b = true) ∧ (2 < i → c = true)))
 case atStart => exact ⟨0, by omega, by omega, rfl, Below.refl _ _, Lib.hid ⟨by omega, by omega, by omega⟩⟩
 case round =>
  obtain ⟨i, hi0, hir, rfl, hbw, hin⟩ := hrel
  have H0 := Lib.hid (vec_step G0.out hbw)
  have H1 := Lib.hid (vec_step G1.out hbw)
  have HBW := Lib.hid hbw
  clear hbw
  rcases (show i = 0 ∨ i = 1 ∨ i = 2 ∨ i = 3 by omega) with rfl | rfl | rfl | rfl
  ·
   by_cases h1 : x < 0
   ·
    have d1 : decide (x < 0) = true := decide_eq_true h1
    have hh : a = false := by rw [HA.out, decide_eq_false (by omega)]; rfl
    have HH := Lib.hid hh
    clear h1 hh
    have m0 := cell_all H0.out 0 (.slice a0 n c0) rfl
    have t0 := cell_all H1.out 0 (.int .i64 x) rfl
    go_upto_region 4 with (fail)
    refine wp_region_quiet_below (by kernel_rfl) (by kernel_rfl) ?_
    repeat (go_big_quiet_step (fail))
    refine wpQuiet_nil ?_
    first | (rintro _ ⟨⟨dq, osq⟩, rfl⟩) | (rintro ⟨dq, osq⟩)
    have HN := Lib.hid (HBW.out.trans ((below_regrown wr dq osq).mono HBW.out.size))
    clear m0 t0
    go_wp2_with fail
    go_ret
    refine ⟨?_, HB.out.trans (HN.out.mono HB.out.size)⟩
    have hh := HH.out
    rw [hh]; first | rfl | (cases a <;> rfl) | (cases a <;> cases b <;> rfl)
   ·
    have d1 : decide (x < 0) = false := decide_eq_false h1
    by_cases h2 : (n : Int) ≤ x
    ·
     have d2 : decide ((n : Int) ≤ x) = true := decide_eq_true h2
     have hh : a = false := by rw [HA.out, decide_eq_false (show ¬ x < (n : Int) by omega)]; cases decide (0 ≤ x) <;> rfl
     have HH := Lib.hid hh
     clear h1 hh h2
     have m0 := cell_all H0.out 0 (.slice a0 n c0) rfl
     have t0 := cell_all H1.out 0 (.int .i64 x) rfl
     go_upto_region 4 with (fail)
     refine wp_region_quiet_below (by kernel_rfl) (by kernel_rfl) ?_
     repeat (go_big_quiet_step (fail))
     refine wpQuiet_nil ?_
     first | (rintro _ ⟨⟨dq, osq⟩, rfl⟩) | (rintro ⟨dq, osq⟩)
     have HN := Lib.hid (HBW.out.trans ((below_regrown wr dq osq).mono HBW.out.size))
     clear m0 t0
     go_wp2_with fail
     go_ret
     refine ⟨?_, HB.out.trans (HN.out.mono HB.out.size)⟩
     have hh := HH.out
     rw [hh]; first | rfl | (cases a <;> rfl) | (cases a <;> cases b <;> rfl)
    ·
     have d2 : decide ((n : Int) ≤ x) = false := decide_eq_false h2
     have hh : a = true := by rw [HA.out, decide_eq_true (show x < (n : Int) by omega), decide_eq_true (show 0 ≤ x by omega)]; rfl
     have HH := Lib.hid hh
     clear h1 hh h2
     have m0 := cell_all H0.out 0 (.slice a0 n c0) rfl
     have t0 := cell_all H1.out 0 (.int .i64 x) rfl
     go_upto_region 4 with (fail)
     refine wp_region_quiet_below (by kernel_rfl) (by kernel_rfl) ?_
     repeat (go_big_quiet_step (fail))
     refine wpQuiet_nil ?_
     first | (rintro _ ⟨⟨dq, osq⟩, rfl⟩) | (rintro ⟨dq, osq⟩)
     have HN := Lib.hid (HBW.out.trans ((below_regrown wr dq osq).mono HBW.out.size))
     clear m0 t0
     go_wp2_with fail
     go_roundg 2
     case measure => omega
     case rel =>
      have hh := HH.out
      have h0 := hin.out
      exact ⟨1, by omega, by omega, rfl, HN.out, Lib.hid ⟨fun _ => hh, by omega, by omega⟩⟩
  ·
   by_cases h1 : y < 0
   ·
    have d1 : decide (y < 0) = true := decide_eq_true h1
    have hh : b = false := by rw [HBB.out, decide_eq_false (by omega)]; rfl
    have HH := Lib.hid hh
    clear h1 hh
    have m0 := cell_all H0.out 0 (.slice a0 n c0) rfl
    have t0 := cell_all H1.out 1 (.int .i64 y) rfl
    go_upto_region 4 with (fail)
    refine wp_region_quiet_below (by kernel_rfl) (by kernel_rfl) ?_
    repeat (go_big_quiet_step (fail))
    refine wpQuiet_nil ?_
    first | (rintro _ ⟨⟨dq, osq⟩, rfl⟩) | (rintro ⟨dq, osq⟩)
    have HN := Lib.hid (HBW.out.trans ((below_regrown wr dq osq).mono HBW.out.size))
    clear m0 t0
    go_wp2_with fail
    go_ret
    refine ⟨?_, HB.out.trans (HN.out.mono HB.out.size)⟩
    have hh := HH.out
    rw [hh]; first | rfl | (cases a <;> rfl) | (cases a <;> cases b <;> rfl)
   ·
    have d1 : decide (y < 0) = false := decide_eq_false h1
    by_cases h2 : (n : Int) ≤ y
    ·
     have d2 : decide ((n : Int) ≤ y) = true := decide_eq_true h2
     have hh : b = false := by rw [HBB.out, decide_eq_false (show ¬ y < (n : Int) by omega)]; cases decide (0 ≤ y) <;> rfl
     have HH := Lib.hid hh
     clear h1 hh h2
     have m0 := cell_all H0.out 0 (.slice a0 n c0) rfl
     have t0 := cell_all H1.out 1 (.int .i64 y) rfl
     go_upto_region 4 with (fail)
     refine wp_region_quiet_below (by kernel_rfl) (by kernel_rfl) ?_
     repeat (go_big_quiet_step (fail))
     refine wpQuiet_nil ?_
     first | (rintro _ ⟨⟨dq, osq⟩, rfl⟩) | (rintro ⟨dq, osq⟩)
     have HN := Lib.hid (HBW.out.trans ((below_regrown wr dq osq).mono HBW.out.size))
     clear m0 t0
     go_wp2_with fail
     go_ret
     refine ⟨?_, HB.out.trans (HN.out.mono HB.out.size)⟩
     have hh := HH.out
     rw [hh]; first | rfl | (cases a <;> rfl) | (cases a <;> cases b <;> rfl)
    ·
     have d2 : decide ((n : Int) ≤ y) = false := decide_eq_false h2
     have hh : b = true := by rw [HBB.out, decide_eq_true (show y < (n : Int) by omega), decide_eq_true (show 0 ≤ y by omega)]; rfl
     have HH := Lib.hid hh
     clear h1 hh h2
     have m0 := cell_all H0.out 0 (.slice a0 n c0) rfl
     have t0 := cell_all H1.out 1 (.int .i64 y) rfl
     go_upto_region 4 with (fail)
     refine wp_region_quiet_below (by kernel_rfl) (by kernel_rfl) ?_
     repeat (go_big_quiet_step (fail))
     refine wpQuiet_nil ?_
     first | (rintro _ ⟨⟨dq, osq⟩, rfl⟩) | (rintro ⟨dq, osq⟩)
     have HN := Lib.hid (HBW.out.trans ((below_regrown wr dq osq).mono HBW.out.size))
     clear m0 t0
     go_wp2_with fail
     go_roundg 1
     case measure => omega
     case rel =>
      have hh := HH.out
      have h0 := hin.out
      exact ⟨2, by omega, by omega, rfl, HN.out, Lib.hid ⟨fun _ => h0.1 (by omega), fun _ => hh, by omega⟩⟩
  ·
   by_cases h1 : z < 0
   ·
    have d1 : decide (z < 0) = true := decide_eq_true h1
    have hh : c = false := by rw [HC.out, decide_eq_false (by omega)]; rfl
    have HH := Lib.hid hh
    clear h1 hh
    have m0 := cell_all H0.out 0 (.slice a0 n c0) rfl
    have t0 := cell_all H1.out 2 (.int .i64 z) rfl
    go_upto_region 4 with (fail)
    refine wp_region_quiet_below (by kernel_rfl) (by kernel_rfl) ?_
    repeat (go_big_quiet_step (fail))
    refine wpQuiet_nil ?_
    first | (rintro _ ⟨⟨dq, osq⟩, rfl⟩) | (rintro ⟨dq, osq⟩)
    have HN := Lib.hid (HBW.out.trans ((below_regrown wr dq osq).mono HBW.out.size))
    clear m0 t0
    go_wp2_with fail
    go_ret
    refine ⟨?_, HB.out.trans (HN.out.mono HB.out.size)⟩
    have hh := HH.out
    rw [hh]; first | rfl | (cases a <;> rfl) | (cases a <;> cases b <;> rfl)
   ·
    have d1 : decide (z < 0) = false := decide_eq_false h1
    by_cases h2 : (n : Int) ≤ z
    ·
     have d2 : decide ((n : Int) ≤ z) = true := decide_eq_true h2
     have hh : c = false := by rw [HC.out, decide_eq_false (show ¬ z < (n : Int) by omega)]; cases decide (0 ≤ z) <;> rfl
     have HH := Lib.hid hh
     clear h1 hh h2
     have m0 := cell_all H0.out 0 (.slice a0 n c0) rfl
     have t0 := cell_all H1.out 2 (.int .i64 z) rfl
     go_upto_region 4 with (fail)
     refine wp_region_quiet_below (by kernel_rfl) (by kernel_rfl) ?_
     repeat (go_big_quiet_step (fail))
     refine wpQuiet_nil ?_
     first | (rintro _ ⟨⟨dq, osq⟩, rfl⟩) | (rintro ⟨dq, osq⟩)
     have HN := Lib.hid (HBW.out.trans ((below_regrown wr dq osq).mono HBW.out.size))
     clear m0 t0
     go_wp2_with fail
     go_ret
     refine ⟨?_, HB.out.trans (HN.out.mono HB.out.size)⟩
     have hh := HH.out
     rw [hh]; first | rfl | (cases a <;> rfl) | (cases a <;> cases b <;> rfl)
    ·
     have d2 : decide ((n : Int) ≤ z) = false := decide_eq_false h2
     have hh : c = true := by rw [HC.out, decide_eq_true (show z < (n : Int) by omega), decide_eq_true (show 0 ≤ z by omega)]; rfl
     have HH := Lib.hid hh
     clear h1 hh h2
     have m0 := cell_all H0.out 0 (.slice a0 n c0) rfl
     have t0 := cell_all H1.out 2 (.int .i64 z) rfl
     go_upto_region 4 with (fail)
     refine wp_region_quiet_below (by kernel_rfl) (by kernel_rfl) ?_
     repeat (go_big_quiet_step (fail))
     refine wpQuiet_nil ?_
     first | (rintro _ ⟨⟨dq, osq⟩, rfl⟩) | (rintro ⟨dq, osq⟩)
     have HN := Lib.hid (HBW.out.trans ((below_regrown wr dq osq).mono HBW.out.size))
     clear m0 t0
     go_wp2_with fail
     go_roundg 0
     case measure => omega
     case rel =>
      have hh := HH.out
      have h0 := hin.out
      exact ⟨3, by omega, by omega, rfl, HN.out, Lib.hid ⟨fun _ => h0.1 (by omega), fun _ => h0.2.1 (by omega), fun _ => hh⟩⟩
  ·
   go_wp2_with fail
   go_ret
   have h0 := hin.out
   exact ⟨by rw [h0.1 (by omega), h0.2.1 (by omega), h0.2.2 (by omega)]; rfl, HB.out.trans (HBW.out.mono HB.out.size)⟩
end Go.Proofs.YtdaokkgenfpmhaaGreat.MeshD

/- The walk of ref12's Check. -/
set_option linter.unusedVariables false
set_option linter.unusedSimpArgs false
namespace Go.Proofs.YtdaokkgenfpmhaaGreat.MeshE
open Go.RowKit Go.Sort FixM Base Num Qb Qt VecW VecV VecU LightQ LightC MeshM Rec MeshA MeshB MeshC MeshD

theorem all_upto {α : Type} {F : α → Bool} {l : List α} (h : ∀ j (h : j < l.length), F l[j] = true) : l.all F = true := by
 rw [List.all_eq_true]
 intro x hx
 obtain ⟨j, hj, rfl⟩ := List.mem_iff_getElem.1 hx
 exact h j hj
theorem all_not {α : Type} {F : α → Bool} {l : List α} (i : Nat) (hi : i < l.length) (h : F l[i] = false) : l.all F = false := by
 rw [← Bool.not_eq_true]
 intro hall
 have := List.all_eq_true.1 hall _ (List.getElem_mem hi)
 rw [h] at this
 cases this
set_option maxRecDepth 100000 in
set_option maxHeartbeats 8000000 in
theorem rcheck_any (v : Value) (m : Msh) (w : World) (hm : IsMesh w v m) (hl : m.ts.length + m.bs.length ≤ 9223372036854775807) : Calls Tryz.prog 25 #[v] w (VTo (.int .i64 (checkF m)) w) := by
 obtain ⟨a0, c0, a1, c1, a2, c2, rfl, h0, h1, h2, l0, l1, l2⟩ := hm.open_
 have CT := Lib.hid (fun w' (hb : Below w.heap.size w w') => rcount_any _ m w' (hm.below hb) hl)
 obtain ⟨W, hW⟩ : ∃ W, W = w.alloc (.cells #[.slice a0 m.ps.length c0, .slice a1 m.ts.length c1, .slice a2 m.bs.length c2] 31) := ⟨_, rfl⟩
 have hB : Below w.heap.size w W := by rw [hW]; exact ext_alloc _ _
 have hR : W.heap[w.heap.size]? = some (.cells #[.slice a0 m.ps.length c0, .slice a1 m.ts.length c1, .slice a2 m.bs.length c2] 31) := by rw [hW]; exact heap_alloc_new _ _
 have R0 := Lib.hid (h0.below hB (Nat.le_refl _))
 have R1 := Lib.hid (h1.below hB (Nat.le_refl _))
 have R2 := Lib.hid (h2.below hB (Nat.le_refl _))
 have HF := Lib.hid (show checkF m = if tooF m then 14 else if (m.ps.all nearV && m.ts.all (hasF m.ps.length) && m.bs.all ballF) then 0 else 14 from rfl)
 have HTF := Lib.hid (show tooF m ↔ (4096 < m.ps.length ∨ 4096 < m.ts.length + m.bs.length) from Iff.rfl)
 obtain ⟨r, hr⟩ : ∃ r, r = checkF m := ⟨_, rfl⟩
 rw [← hr] at HF ⊢
 clear hr
 have HTH := Lib.hid (fun (t : V3) (W : World) => qb (P := Tryz.prog) (W := W) (fun w2 _ => there_any a0 m.ps.length c0 (.slice a1 m.ts.length c1) (.slice a2 m.bs.length c2) l0 t w2))
 obtain ⟨ps, ts, bs⟩ := m
 dsimp only at *
 obtain ⟨n0, hn0⟩ : ∃ n, n = ps.length := ⟨_, rfl⟩
 obtain ⟨n1, hn1⟩ : ∃ n, n = ts.length := ⟨_, rfl⟩
 obtain ⟨n2, hn2⟩ : ∃ n, n = bs.length := ⟨_, rfl⟩
 obtain ⟨N, hN⟩ : ∃ N : Int, N = ((ts.length + bs.length : Nat) : Int) := ⟨_, rfl⟩
 rw [← hN] at CT
 have HN := Lib.hid (show N = (n1 : Int) + (n2 : Int) by rw [hN, hn1, hn2]; omega)
 rw [← hn0, ← hn1, ← hn2] at HTF
 rw [← hn0] at HF
 rw [← hn0, ← hn1, ← hn2] at hR hW CT
 rw [← hn0] at l0 R0
 rw [← hn1] at l1 R1
 rw [← hn2] at l2 R2
 rw [← hn0, ← hn1, ← hn2] at HTH
 rw [← hn0, ← hn1, ← hn2]
 have HN0 := Lib.hid hn0
 have HN1 := Lib.hid hn1
 have HN2 := Lib.hid hn2
 have HR := Lib.hid hR
 have HB := Lib.hid hB
 have HWW := Lib.hid hW
 have NEAR := Lib.hid rnear_any
 clear hn0 hn1 hn2 hN hR hB hW hm h0 h1 h2 hl
 by_cases h0 : 4096 < n0
 ·
  have d0 : decide (4096 < (n0 : Int)) = true := decide_eq_true (by omega)
  have er : r = 14 := by rw [HF.out, if_pos (HTF.out.2 (.inl h0))]
  have k0 := cell_row HR.out 0 (.slice a0 n0 c0) rfl
  clear h0
  subst er
  rw [HWW.out] at k0 HB
  go_enter Tryz.func25, Tryz.ntmps25
  go_wp2_with fail
  go_ret
  exact ⟨rfl, HB.out⟩
 ·
  have d0 : decide (4096 < (n0 : Int)) = false := decide_eq_false (by omega)
  have k0 := cell_row HR.out 0 (.slice a0 n0 c0) rfl
  have k1 := cell_row HR.out 1 (.slice a1 n1 c1) rfl
  have k2 := cell_row HR.out 2 (.slice a2 n2 c2) rfl
  rw [HWW.out] at k0 k1 k2
  by_cases h1 : 4096 < n1 + n2
  ·
   have d1 : decide (4096 < N) = true := decide_eq_true (by have := HN.out; omega)
   have er : r = 14 := by rw [HF.out, if_pos (HTF.out.2 (.inr h1))]
   clear h0 h1
   subst er
   go_enter Tryz.func25, Tryz.ntmps25
   go_wp2_with fail
   rw [← HWW.out]
   clear k0 k1 k2
   refine (CT.out _ HB.out).mono ?_
   rintro e w1 ⟨rfl, hb1⟩
   have HB1 := Lib.hid (HB.out.trans (hb1.mono HB.out.size))
   clear hb1
   go_wp2_with fail
   go_ret
   exact ⟨rfl, HB1.out⟩
  ·
   have d1 : decide (4096 < N) = false := decide_eq_false (by have := HN.out; omega)
   have HE := Lib.hid (show r = if (ps.all nearV && ts.all (hasF n0) && bs.all ballF) = true then 0 else 14 by rw [HF.out, if_neg (fun h => by have := HTF.out.1 h; omega)])
   clear h0 h1 HF HTF
   go_enter Tryz.func25, Tryz.ntmps25
   go_wp2_with fail
   rw [← HWW.out]
   clear k0 k1 k2
   refine (CT.out _ HB.out).mono ?_
   rintro e w1 ⟨rfl, hb1⟩
   have HB1 := Lib.hid hb1
   clear hb1
   go_wp2_with fail
   clear CT
   go_loopg [3] n0 (fun r n9 wr => ∃ i : Nat, i + r = n0 ∧ n9 = .int .i64 (i : Int) ∧ Hid ((∀ j (h : j < ps.length), j < i → nearV ps[j] = true) ∧ Below W.heap.size W wr))
   case atStart => exact ⟨0, by omega, rfl, Lib.hid ⟨by omega, HB1.out⟩⟩
   case round =>
    obtain ⟨i, hir, rfl, hin⟩ := hrel
    have q0 := cell_row (vec_step HR.out hin.out.2) 0 (.slice a0 n0 c0) rfl
    by_cases hi : i < ps.length
    ·
     have hv1 := R0.out.below hin.out.2 (Nat.le_refl _)
     obtain ⟨b, off, e, hb, p0, p1, p2⟩ := at3 hv1 i hi
     subst e
     obtain ⟨u, hu⟩ : ∃ u, u = ps[i] := ⟨_, rfl⟩
     rw [← hu] at p0 p1 p2
     have HU := Lib.hid hu
     clear hu hv1
     have hin0 : (i : Int) < (n0 : Int) := by have := HN0.out; omega
     have d3 : decide (i < n0) = true := decide_eq_true (by have := HN0.out; omega)
     have d2 : decide ((i : Int) < (n0 : Int)) = true := decide_eq_true hin0
     obtain ⟨V, hV⟩ : ∃ W, W = (wr.alloc (.cells #[.int .i64 0, .int .i64 0, .int .i64 0] 46)).setRow wr.heap.size #[.int .i64 u.x, .int .i64 u.y, .int .i64 u.z] := ⟨_, rfl⟩
     have G := Lib.hid (show V.heap[wr.heap.size]? = some (.cells #[.int .i64 u.x, .int .i64 u.y, .int .i64 u.z] 46) by rw [hV]; exact setRow_heap _ _ _ _ _ _ (heap_alloc_new _ _))
     have B := Lib.hid (hin.out.2.trans ((show Below wr.heap.size wr V by rw [hV]; exact below_setRow (ext_alloc _ _) (Nat.le_refl _) _).mono hin.out.2.size))
     have HVV := Lib.hid hV
     have HRR := Lib.hid hir
     clear hV hir
     obtain ⟨x, y, z⟩ := u
     go_upto_region 7 with (with_reducible refine store_recV rfl (.tmp 4) (.tmp 28) rfl rfl wr.heap.size x y z rfl rfl _ (heap_alloc_new _ _) rfl ?_)
     rw [← HVV.out]
     clear HVV p0 p1 p2 d2 d3 q0
     obtain ⟨e0, e1, e2⟩ : V.cell? ⟨wr.heap.size, 0, none⟩ = some (.int .i64 x) ∧ V.cell? ⟨wr.heap.size, 1, none⟩ = some (.int .i64 y) ∧ V.cell? ⟨wr.heap.size, 2, none⟩ = some (.int .i64 z) := ⟨cell_row G.out 0 _ rfl, cell_row G.out 1 _ rfl, cell_row G.out 2 _ rfl⟩
     have HQ := Lib.hid (show nearV ⟨x, y, z⟩ = (nearI x && nearI y && nearI z) from rfl)
     have N1 := Lib.hid (NEAR.out x)
     have N2 := Lib.hid (NEAR.out y)
     have N3 := Lib.hid (NEAR.out z)
     obtain ⟨s1, hs1⟩ : ∃ s, s = nearI x := ⟨_, rfl⟩
     obtain ⟨s2, hs2⟩ : ∃ s, s = nearI y := ⟨_, rfl⟩
     obtain ⟨s3, hs3⟩ : ∃ s, s = nearI z := ⟨_, rfl⟩
     rw [← hs1] at N1 HQ
     rw [← hs2] at N2 HQ
     rw [← hs3] at N3 HQ
     clear hs1 hs2 hs3
     go_wp2_with fail
     refine (N1.out _).mono ?_
     rintro e w2 ⟨rfl, rfl⟩
     cases s1
     ·
      go_wp2_with fail
      go_ret
      have hh : nearV ps[i] = false := by rw [← HU.out, HQ.out]; rfl
      exact ⟨by rw [HE.out, all_not i hi hh]; rfl, HB.out.trans (B.out.mono HB.out.size)⟩
     ·
      go_wp2_with fail
      refine (N2.out _).mono ?_
      rintro e w2 ⟨rfl, rfl⟩
      cases s2
      ·
       go_wp2_with fail
       go_ret
       have hh : nearV ps[i] = false := by rw [← HU.out, HQ.out]; rfl
       exact ⟨by rw [HE.out, all_not i hi hh]; rfl, HB.out.trans (B.out.mono HB.out.size)⟩
      ·
       go_wp2_with fail
       refine (N3.out _).mono ?_
       rintro e w2 ⟨rfl, rfl⟩
       cases s3
       ·
        go_wp2_with fail
        go_ret
        have hh : nearV ps[i] = false := by rw [← HU.out, HQ.out]; rfl
        exact ⟨by rw [HE.out, all_not i hi hh]; rfl, HB.out.trans (B.out.mono HB.out.size)⟩
       ·
        go_wp2_with fail
        go_roundg (n0 - (i + 1))
        case measure => have := HRR.out; have := HN0.out; omega
        case rel =>
         refine ⟨i + 1, by have := HRR.out; have := HN0.out; omega, by go_num, Lib.hid ⟨fun j h hj => ?_, B.out⟩⟩
         by_cases e : j = i
         ·
          subst e
          rw [← HU.out, HQ.out]; rfl
         ·
          exact hin.out.1 j h (by omega)
    ·
     have d3 : decide (i < n0) = false := decide_eq_false (by have := HN0.out; omega)
     have d2 : decide ((i : Int) < (n0 : Int)) = false := decide_eq_false (by have := HN0.out; omega)
     have HP := Lib.hid (all_upto (fun j h => hin.out.1 j h (by omega)))
     have HBI := Lib.hid hin.out.2
     clear hin
     go_wp2_with fail
     clear q0 d2 d3
     go_loopg [5] n1 (fun r n9 wr => ∃ i : Nat, i + r = n1 ∧ n9 = .int .i64 (i : Int) ∧ Hid ((∀ j (h : j < ts.length), j < i → hasF n0 ts[j] = true) ∧ Below W.heap.size W wr))
     case atStart => exact ⟨0, by omega, rfl, Lib.hid ⟨by omega, HBI.out⟩⟩
     case round =>
      obtain ⟨i, hir, rfl, hin⟩ := hrel
      have q1 := cell_row (vec_step HR.out hin.out.2) 1 (.slice a1 n1 c1) rfl
      by_cases hi : i < ts.length
      ·
       have hv1 := R1.out.below hin.out.2 (Nat.le_refl _)
       obtain ⟨b, off, e, hb, p0, p1, p2⟩ := at3 hv1 i hi
       subst e
       obtain ⟨u, hu⟩ : ∃ u, u = ts[i] := ⟨_, rfl⟩
       rw [← hu] at p0 p1 p2
       have HU := Lib.hid hu
       clear hu hv1
       have d3 : decide (i < n1) = true := decide_eq_true (by have := HN1.out; omega)
       have d2 : decide ((i : Int) < (n1 : Int)) = true := decide_eq_true (by have := HN1.out; omega)
       have hin1 : (i : Int) < (n1 : Int) := by have := HN1.out; omega
       have HRR := Lib.hid hir
       clear hir
       obtain ⟨x, y, z⟩ := u
       go_upto_region 12 with (fail)
       clear q1 d2 d3
       have TH := Lib.hid (HTH.out ⟨x, y, z⟩ wr)
       obtain ⟨s1, hs1⟩ : ∃ s, s = hasF n0 ⟨x, y, z⟩ := ⟨_, rfl⟩
       rw [← hs1] at TH
       have HQ := Lib.hid hs1
       clear hs1
       have hmr := vec_step HR.out hin.out.2
       have m0 := cell_all hmr 0 (.slice a0 n0 c0) rfl
       have m1 := cell_all hmr 1 (.slice (some ⟨b, off, none⟩) n1 c1) rfl
       have m2 := cell_all hmr 2 (.slice a2 n2 c2) rfl
       have u0 := fun d os => cell_regrown p0 d os
       have u1 := fun d os => cell_regrown p1 d os
       have u2 := fun d os => cell_regrown p2 d os
       clear hmr p0 p1 p2
       refine wp_region_quiet_below (by kernel_rfl) (by kernel_rfl) ?_
       repeat (go_big_quiet_step (with_reducible exact TH.out _ _))
       refine wpQuiet_nil ?_
       first | (rintro _ ⟨⟨dq, osq⟩, rfl⟩) | (rintro ⟨dq, osq⟩)
       have B := Lib.hid (hin.out.2.trans ((below_regrown wr dq osq).mono hin.out.2.size))
       clear m0 m1 m2 u0 u1 u2
       cases s1
       ·
        go_wp2_with fail
        go_ret
        have hh : hasF n0 ts[i] = false := by rw [← HU.out, ← HQ.out]
        exact ⟨by rw [HE.out, HP.out, all_not i hi hh]; rfl, HB.out.trans (B.out.mono HB.out.size)⟩
       ·
        go_wp2_with fail
        go_roundg (n1 - (i + 1))
        case measure => have := HRR.out; have := HN1.out; omega
        case rel =>
         refine ⟨i + 1, by have := HRR.out; have := HN1.out; omega, by go_num, Lib.hid ⟨fun j h hj => ?_, B.out⟩⟩
         by_cases e : j = i
         ·
          subst e
          rw [← HU.out, ← HQ.out]
         ·
          exact hin.out.1 j h (by omega)
      ·
       have d3 : decide (i < n1) = false := decide_eq_false (by have := HN1.out; omega)
       have d2 : decide ((i : Int) < (n1 : Int)) = false := decide_eq_false (by have := HN1.out; omega)
       have HP1 := Lib.hid (all_upto (fun j h => hin.out.1 j h (by omega)))
       have HBI1 := Lib.hid hin.out.2
       clear hin HBI
       go_wp2_with fail
       clear q1 d2 d3
       go_loopg [6] n2 (fun r n9 wr => ∃ i : Nat, i + r = n2 ∧ n9 = .int .i64 (i : Int) ∧ Hid ((∀ j (h : j < bs.length), j < i → ballF bs[j] = true) ∧ Below W.heap.size W wr))
       case atStart => exact ⟨0, by omega, rfl, Lib.hid ⟨by omega, HBI1.out⟩⟩
       case round =>
        obtain ⟨i, hir, rfl, hin⟩ := hrel
        have q2 := cell_row (vec_step HR.out hin.out.2) 2 (.slice a2 n2 c2) rfl
        by_cases hi : i < bs.length
        ·
         have hv1 := R2.out.below hin.out.2 (Nat.le_refl _)
         obtain ⟨b, off, e, hb, p0, p1, p2, p3⟩ := at4 hv1 i hi
         subst e
         obtain ⟨u, hu⟩ : ∃ u, u = bs[i] := ⟨_, rfl⟩
         rw [← hu] at p0 p1 p2 p3
         have HU := Lib.hid hu
         clear hu hv1
         have hin2 : (i : Int) < (n2 : Int) := by have := HN2.out; omega
         have d3 : decide (i < n2) = true := decide_eq_true (by have := HN2.out; omega)
         have d2 : decide ((i : Int) < (n2 : Int)) = true := decide_eq_true hin2
         obtain ⟨V, hV⟩ : ∃ W, W = (wr.alloc (.cells #[.int .i64 0, .int .i64 0, .int .i64 0, .int .i64 0] 51)).setRow wr.heap.size #[.int .i64 u.c.x, .int .i64 u.c.y, .int .i64 u.c.z, .int .i64 u.r] := ⟨_, rfl⟩
         have G := Lib.hid (show V.heap[wr.heap.size]? = some (.cells #[.int .i64 u.c.x, .int .i64 u.c.y, .int .i64 u.c.z, .int .i64 u.r] 51) by rw [hV]; exact setRow_heap _ _ _ _ _ _ (heap_alloc_new _ _))
         have B := Lib.hid (hin.out.2.trans ((show Below wr.heap.size wr V by rw [hV]; exact below_setRow (ext_alloc _ _) (Nat.le_refl _) _).mono hin.out.2.size))
         have HVV := Lib.hid hV
         have HRR := Lib.hid hir
         clear hV hir
         obtain ⟨⟨x, y, z⟩, s⟩ := u
         go_upto_region 18 with (with_reducible refine store_recB rfl (.tmp 7) (.tmp 71) rfl rfl wr.heap.size x y z s rfl rfl _ (heap_alloc_new _ _) rfl ?_)
         rw [← HVV.out]
         clear HVV p0 p1 p2 p3 d2 d3 q2
         obtain ⟨e0, e1, e2, e3⟩ : V.cell? ⟨wr.heap.size, 0, none⟩ = some (.int .i64 x) ∧ V.cell? ⟨wr.heap.size, 1, none⟩ = some (.int .i64 y) ∧ V.cell? ⟨wr.heap.size, 2, none⟩ = some (.int .i64 z) ∧ V.cell? ⟨wr.heap.size, 3, none⟩ = some (.int .i64 s) := ⟨cell_row G.out 0 _ rfl, cell_row G.out 1 _ rfl, cell_row G.out 2 _ rfl, cell_row G.out 3 _ rfl⟩
         have HQ := Lib.hid (show ballF ⟨⟨x, y, z⟩, s⟩ = (nearI x && nearI y && nearI z && decide (1 ≤ s) && decide (s ≤ 4503599627370496)) from rfl)
         have N1 := Lib.hid (NEAR.out x)
         have N2 := Lib.hid (NEAR.out y)
         have N3 := Lib.hid (NEAR.out z)
         obtain ⟨s1, hs1⟩ : ∃ s, s = nearI x := ⟨_, rfl⟩
         obtain ⟨s2, hs2⟩ : ∃ s, s = nearI y := ⟨_, rfl⟩
         obtain ⟨s3, hs3⟩ : ∃ s, s = nearI z := ⟨_, rfl⟩
         rw [← hs1] at N1 HQ
         rw [← hs2] at N2 HQ
         rw [← hs3] at N3 HQ
         clear hs1 hs2 hs3
         go_wp2_with fail
         refine (N1.out _).mono ?_
         rintro e w2 ⟨rfl, rfl⟩
         cases s1
         ·
          go_wp2_with fail
          go_ret
          have hh : ballF bs[i] = false := by rw [← HU.out, HQ.out]; rfl
          exact ⟨by rw [HE.out, HP.out, HP1.out, all_not i hi hh]; rfl, HB.out.trans (B.out.mono HB.out.size)⟩
         ·
          go_wp2_with fail
          refine (N2.out _).mono ?_
          rintro e w2 ⟨rfl, rfl⟩
          cases s2
          ·
           go_wp2_with fail
           go_ret
           have hh : ballF bs[i] = false := by rw [← HU.out, HQ.out]; rfl
           exact ⟨by rw [HE.out, HP.out, HP1.out, all_not i hi hh]; rfl, HB.out.trans (B.out.mono HB.out.size)⟩
          ·
           go_wp2_with fail
           refine (N3.out _).mono ?_
           rintro e w2 ⟨rfl, rfl⟩
           cases s3
           ·
            go_wp2_with fail
            go_ret
            have hh : ballF bs[i] = false := by rw [← HU.out, HQ.out]; rfl
            exact ⟨by rw [HE.out, HP.out, HP1.out, all_not i hi hh]; rfl, HB.out.trans (B.out.mono HB.out.size)⟩
           ·
            by_cases h4 : s < 1
            ·
             have d4 : decide (s < 1) = true := decide_eq_true h4
             have HX := Lib.hid (show decide (1 ≤ s) = false from decide_eq_false (by omega))
             clear h4
             go_wp2_with fail
             go_ret
             have hh : ballF bs[i] = false := by rw [← HU.out, HQ.out, HX.out]; rfl
             exact ⟨by rw [HE.out, HP.out, HP1.out, all_not i hi hh]; rfl, HB.out.trans (B.out.mono HB.out.size)⟩
            ·
             have d4 : decide (s < 1) = false := decide_eq_false h4
             have HX := Lib.hid (show decide (1 ≤ s) = true from decide_eq_true (by omega))
             by_cases h5 : 4503599627370496 < s
             ·
              have d5 : decide (4503599627370496 < s) = true := decide_eq_true h5
              have HY := Lib.hid (show decide (s ≤ 4503599627370496) = false from decide_eq_false (by omega))
              clear h4 h5
              go_wp2_with fail
              go_ret
              have hh : ballF bs[i] = false := by rw [← HU.out, HQ.out, HX.out, HY.out]; rfl
              exact ⟨by rw [HE.out, HP.out, HP1.out, all_not i hi hh]; rfl, HB.out.trans (B.out.mono HB.out.size)⟩
             ·
              have d5 : decide (4503599627370496 < s) = false := decide_eq_false h5
              have HY := Lib.hid (show decide (s ≤ 4503599627370496) = true from decide_eq_true (by omega))
              clear h4 h5
              go_wp2_with fail
              go_roundg (n2 - (i + 1))
              case measure => have := HRR.out; have := HN2.out; omega
              case rel =>
               refine ⟨i + 1, by have := HRR.out; have := HN2.out; omega, by go_num, Lib.hid ⟨fun j h hj => ?_, B.out⟩⟩
               by_cases e : j = i
               ·
                subst e
                rw [← HU.out, HQ.out, HX.out, HY.out]; rfl
               ·
                exact hin.out.1 j h (by omega)
        ·
         have d3 : decide (i < n2) = false := decide_eq_false (by have := HN2.out; omega)
         have d2 : decide ((i : Int) < (n2 : Int)) = false := decide_eq_false (by have := HN2.out; omega)
         have HP2 := Lib.hid (all_upto (fun j h => hin.out.1 j h (by omega)))
         go_wp2_with fail
         go_ret
         exact ⟨by rw [HE.out, HP.out, HP1.out, HP2.out]; rfl, HB.out.trans (hin.out.2.mono HB.out.size)⟩
end Go.Proofs.YtdaokkgenfpmhaaGreat.MeshE

/- The walk of mesh.Box. -/
set_option linter.unusedVariables false
set_option linter.unusedSimpArgs false
namespace Go.Proofs.YtdaokkgenfpmhaaGreat.MeshP
open Go.RowKit Go.Sort FixM Base Num FixW Qb Qt Qa Qf VecW VecV VecU LightQ LightC MeshM Rec MeshA MeshB MeshC MeshD MeshE

structure Bx where
 lo : V3
 hi : V3
def boxV (b : Bx) : Value := .agg #[.int .i64 b.lo.x, .int .i64 b.lo.y, .int .i64 b.lo.z, .int .i64 b.hi.x, .int .i64 b.hi.y, .int .i64 b.hi.z]
def zeroB : Bx := ⟨⟨0, 0, 0⟩, ⟨0, 0, 0⟩⟩
def min3 (x y z : Int) : Int := if z < (if y < x then y else x) then z else (if y < x then y else x)
def max3 (x y z : Int) : Int := if z > (if y > x then y else x) then z else (if y > x then y else x)
def triB (a b c : V3) : Bx := ⟨⟨min3 a.x b.x c.x, min3 a.y b.y c.y, min3 a.z b.z c.z⟩, ⟨max3 a.x b.x c.x, max3 a.y b.y c.y, max3 a.z b.z c.z⟩⟩
def ballB (b : B4) : Bx := ⟨⟨subF b.c.x b.r, subF b.c.y b.r, subF b.c.z b.r⟩, ⟨addF b.c.x b.r, addF b.c.y b.r, addF b.c.z b.r⟩⟩
def v0 : V3 := ⟨0, 0, 0⟩
def ptF (m : Msh) (x : Int) : V3 := m.ps.getD x.toNat v0
def triF (m : Msh) (t : V3) : Bx := if hasF m.ps.length t then triB (ptF m t.x) (ptF m t.y) (ptF m t.z) else zeroB
def boxF (m : Msh) (i : Int) : Bx :=
 if i < 0 ∨ (m.ts.length : Int) + (m.bs.length : Int) ≤ i then zeroB
 else if i < (m.ts.length : Int) then triF m (m.ts.getD i.toNat v0)
 else ballB (m.bs.getD (i - (m.ts.length : Int)).toNat ⟨v0, 0⟩)
theorem box_size : (Tryz.prog.info? 72).map (·.size) = some 6 := by kernel_rfl
theorem ones6 (a b c d e f : Int) : ∀ v ∈ (#[Value.int .i64 a, .int .i64 b, .int .i64 c, .int .i64 d, .int .i64 e, .int .i64 f] : Array Value).toList, v.oneCell' = true := by
 intro v hv; simp at hv; rcases hv with rfl | rfl | rfl | rfl | rfl | rfl <;> rfl
theorem store_box {ops : Array Oper} {rest : List Oper} {o : Oper} {a : Act} {w : World} {Q : Exit → Act → World → Prop} (hgd : o.guard = none) (x y : Operand) (ho : o.op = .store 72 x y) (hd : o.dst = none)
  (g : Nat) (A B C D E F : Int) (hx : a.eval x = .pointer (some ⟨g, 0, none⟩)) (hy : a.eval y = .agg #[.int .i64 A, .int .i64 B, .int .i64 C, .int .i64 D, .int .i64 E, .int .i64 F]) (cur : Array Value) (hg : w.heap[g]? = some (.cells cur 72)) (hc2 : cur.size = 6)
  (h : wpList Tryz.prog ops Q rest a (w.setRow g #[.int .i64 A, .int .i64 B, .int .i64 C, .int .i64 D, .int .i64 E, .int .i64 F])) : wpList Tryz.prog ops Q (o :: rest) a w :=
 wpList_store_arr hgd 72 x y ho g _ hx hy 72 cur hg box_size (by rw [hc2]; rfl) (ones6 _ _ _ _ _ _) hd h
theorem min_at {x y z n : Int} (h : n = min3 x y z) (ts : Array TypeId) (t : TypeId) (w : World) : (Builtin.min_ ts t #[.int .i64 x, .int .i64 y, .int .i64 z]).run Tryz.prog w = .ok (.int .i64 n) w := by
 rw [h]; simp [Builtin.min_, Builtin.min2, min3]
theorem max_at {x y z n : Int} (h : n = max3 x y z) (ts : Array TypeId) (t : TypeId) (w : World) : (Builtin.max_ ts t #[.int .i64 x, .int .i64 y, .int .i64 z]).run Tryz.prog w = .ok (.int .i64 n) w := by
 rw [h]; simp [Builtin.max_, Builtin.max2, max3]
theorem alloc_vec (w : World) : (Instr.alloc 46 true (.tuple #[])).run Tryz.prog w = .ok (.pointer (some ⟨w.heap.size, 0, none⟩)) (w.alloc (box3 ⟨0, 0, 0⟩)) := by kernel_rfl
theorem row_one (a b c : Int) : (#[Value.int .i64 a, .int .i64 b, .int .i64 c] : Array Value).all (·.oneCell') = true := by
 rw [Array.all_eq_true_iff_forall_mem]
 intro v hv
 exact ones3 a b c v (by simpa using hv)
abbrev mvals (a0 : Option Addr) (n0 c0 : Nat) (a1 : Option Addr) (n1 c1 : Nat) (a2 : Option Addr) (n2 c2 : Nat) : Value := .agg #[.slice a0 n0 c0, .slice a1 n1 c1, .slice a2 n2 c2]
abbrev W2 (w : World) (a0 : Option Addr) (n0 c0 : Nat) (a1 : Option Addr) (n1 c1 : Nat) (a2 : Option Addr) (n2 c2 : Nat) : World := (w.alloc (.cells #[.slice a0 n0 c0, .slice a1 n1 c1, .slice a2 n2 c2] 31)).alloc (.cells #[.int .i64 0, .int .i64 0, .int .i64 0, .int .i64 0, .int .i64 0, .int .i64 0] 72)

set_option maxRecDepth 100000 in
set_option maxHeartbeats 4000000 in
theorem box_neg (w : World) (a0 : Option Addr) (n0 c0 : Nat) (a1 : Option Addr) (n1 c1 : Nat) (a2 : Option Addr) (n2 c2 : Nat) (i : Int) (h : i < 0) : Calls Tryz.prog 23 #[mvals a0 n0 c0 a1 n1 c1 a2 n2 c2, .int .i64 i] w (VTo (boxV zeroB) w) := by
 have d0 : decide (i < 0) = true := decide_eq_true h
 clear h
 obtain ⟨W, hW⟩ : ∃ W, W = W2 w a0 n0 c0 a1 n1 c1 a2 n2 c2 := ⟨_, rfl⟩
 have hB : Below w.heap.size w W := by rw [hW]; exact alloc2_below _ _ _
 have hR : W.heap[w.heap.size]? = some (.cells #[.slice a0 n0 c0, .slice a1 n1 c1, .slice a2 n2 c2] 31) := by rw [hW]; exact alloc2_0 _ _ _
 have hZ : W.heap[w.heap.size + 1]? = some (.cells #[.int .i64 0, .int .i64 0, .int .i64 0, .int .i64 0, .int .i64 0, .int .i64 0] 72) := by rw [hW]; exact alloc2_1 _ _ _
 have k0 := cell_row hR 0 (.slice a0 n0 c0) rfl
 have k1 := cell_row hR 1 (.slice a1 n1 c1) rfl
 have k2 := cell_row hR 2 (.slice a2 n2 c2) rfl
 have HR := Lib.hid hR
 have HB := Lib.hid hB
 have HZ := Lib.hid hZ
 have HWW := Lib.hid hW
 rw [hW] at k0 k1 k2
 clear hR hB hZ hW
 unfold mvals W2 at *
 clear HR HB HZ HWW
 go_enter Tryz.func23, Tryz.ntmps23
 go_wp2_with (with_reducible refine store_box rfl (.tmp 4) (.tmp 18) rfl rfl (w.heap.size + 1) 0 0 0 0 0 0 rfl rfl _ (alloc2_1 _ _ _) rfl ?_)
 refine bodyPost_ret (results_cell_row rfl _ _ (w.heap.size + 1) 72 _ _ _ rfl (setRow_heap _ (w.heap.size + 1) _ _ _ _ (alloc2_1 _ _ _)) Tryz.underlying72 rfl box_size) rfl ?_
 exact ⟨rfl, below_setRow (alloc2_below _ _ _) (by omega) _⟩

set_option maxRecDepth 100000 in
set_option maxHeartbeats 4000000 in
theorem box_far (w : World) (a0 : Option Addr) (n0 c0 : Nat) (a1 : Option Addr) (n1 c1 : Nat) (a2 : Option Addr) (n2 c2 : Nat) (N : Int) (hN : N = (n1 : Int) + (n2 : Int)) (CT : Hid (∀ w', Below w.heap.size w w' → Calls Tryz.prog 22 #[mvals a0 n0 c0 a1 n1 c1 a2 n2 c2] w' (VTo (.int .i64 N) w'))) (i : Int) (h0 : 0 ≤ i) (h : N ≤ i) : Calls Tryz.prog 23 #[mvals a0 n0 c0 a1 n1 c1 a2 n2 c2, .int .i64 i] w (VTo (boxV zeroB) w) := by
 have d0 : decide (i < 0) = false := decide_eq_false (by omega)
 have d1 : decide (N ≤ i) = true := decide_eq_true h
 clear h h0 hN
 obtain ⟨W, hW⟩ : ∃ W, W = W2 w a0 n0 c0 a1 n1 c1 a2 n2 c2 := ⟨_, rfl⟩
 have hB : Below w.heap.size w W := by rw [hW]; exact alloc2_below _ _ _
 have hR : W.heap[w.heap.size]? = some (.cells #[.slice a0 n0 c0, .slice a1 n1 c1, .slice a2 n2 c2] 31) := by rw [hW]; exact alloc2_0 _ _ _
 have hZ : W.heap[w.heap.size + 1]? = some (.cells #[.int .i64 0, .int .i64 0, .int .i64 0, .int .i64 0, .int .i64 0, .int .i64 0] 72) := by rw [hW]; exact alloc2_1 _ _ _
 have k0 := cell_row hR 0 (.slice a0 n0 c0) rfl
 have k1 := cell_row hR 1 (.slice a1 n1 c1) rfl
 have k2 := cell_row hR 2 (.slice a2 n2 c2) rfl
 have HR := Lib.hid hR
 have HB := Lib.hid hB
 have HZ := Lib.hid hZ
 have HWW := Lib.hid hW
 rw [hW] at k0 k1 k2
 clear hR hB hZ hW
 unfold mvals W2 at *
 go_enter Tryz.func23, Tryz.ntmps23
 go_wp2_with fail
 rw [← HWW.out]
 clear k0 k1 k2
 refine (CT.out _ HB.out).mono ?_
 rintro e w1 ⟨rfl, hb1⟩
 have HB1 := Lib.hid (HB.out.trans (hb1.mono HB.out.size))
 have HZ1 := Lib.hid (vec_step HZ.out hb1)
 clear hb1
 go_wp2_with (with_reducible refine store_box rfl (.tmp 4) (.tmp 18) rfl rfl (w.heap.size + 1) 0 0 0 0 0 0 rfl rfl _ HZ1.out rfl ?_)
 refine bodyPost_ret (results_cell_row rfl _ _ (w.heap.size + 1) 72 _ _ _ rfl (setRow_heap _ (w.heap.size + 1) _ _ _ _ (HZ1.out)) Tryz.underlying72 rfl box_size) rfl ?_
 exact ⟨rfl, below_setRow HB1.out (by omega) _⟩

theorem ball_size : (Tryz.prog.info? 51).map (·.size) = some 4 := by kernel_rfl
theorem ones4 (a b c d : Int) : ∀ v ∈ (#[Value.int .i64 a, .int .i64 b, .int .i64 c, .int .i64 d] : Array Value).toList, v.oneCell' = true := by
 intro v hv; simp at hv; rcases hv with rfl | rfl | rfl | rfl <;> rfl
theorem store_ball {ops : Array Oper} {rest : List Oper} {o : Oper} {a : Act} {w : World} {Q : Exit → Act → World → Prop} (hgd : o.guard = none) (x y : Operand) (ho : o.op = .store 51 x y) (hd : o.dst = none)
  (g : Nat) (A B C D : Int) (hx : a.eval x = .pointer (some ⟨g, 0, none⟩)) (hy : a.eval y = .agg #[.int .i64 A, .int .i64 B, .int .i64 C, .int .i64 D]) (cur : Array Value) (hg : w.heap[g]? = some (.cells cur 51)) (hc2 : cur.size = 4)
  (h : wpList Tryz.prog ops Q rest a (w.setRow g #[.int .i64 A, .int .i64 B, .int .i64 C, .int .i64 D])) : wpList Tryz.prog ops Q (o :: rest) a w :=
 wpList_store_arr hgd 51 x y ho g _ hx hy 51 cur hg ball_size (by rw [hc2]; rfl) (ones4 _ _ _ _) hd h
theorem put4_row (w : World) (T : TypeId) (cur row : Array Value) : ((w.alloc (.cells cur T)).setRow w.heap.size row).heap[w.heap.size]? = some (.cells row T) :=
 setRow_heap (w.alloc (.cells cur T)) w.heap.size _ row _ _ (heap_alloc_new _ _)
theorem put_ext (w : World) (o : Obj) (row : Array Value) : Below w.heap.size w ((w.alloc o).setRow w.heap.size row) := below_setRow (ext_alloc w o) (Nat.le_refl _) _

theorem tri_size : (Tryz.prog.info? 52).map (·.size) = some 3 := by kernel_rfl
theorem store_tri {ops : Array Oper} {rest : List Oper} {o : Oper} {a : Act} {w : World} {Q : Exit → Act → World → Prop} (hgd : o.guard = none) (x y : Operand) (ho : o.op = .store 52 x y) (hd : o.dst = none)
  (g : Nat) (A B C : Int) (hx : a.eval x = .pointer (some ⟨g, 0, none⟩)) (hy : a.eval y = .agg #[.int .i64 A, .int .i64 B, .int .i64 C]) (cur : Array Value) (hg : w.heap[g]? = some (.cells cur 52)) (hc2 : cur.size = 3)
  (h : wpList Tryz.prog ops Q rest a (w.setRow g #[.int .i64 A, .int .i64 B, .int .i64 C])) : wpList Tryz.prog ops Q (o :: rest) a w :=
 wpList_store_arr hgd 52 x y ho g _ hx hy 52 cur hg tri_size (by rw [hc2]; rfl) (ones3 _ _ _) hd h

set_option maxRecDepth 100000 in
set_option maxHeartbeats 4000000 in
theorem box_ball (w : World) (a0 : Option Addr) (n0 c0 : Nat) (a1 : Option Addr) (n1 c1 : Nat) (a2 : Option Addr) (n2 c2 : Nat) (N : Int) (hN : N = (n1 : Int) + (n2 : Int)) (CT : Hid (∀ w', Below w.heap.size w w' → Calls Tryz.prog 22 #[mvals a0 n0 c0 a1 n1 c1 a2 n2 c2] w' (VTo (.int .i64 N) w'))) (bs : List B4) (hbs : Recs 4 enc4 w (.slice a2 n2 c2) bs) (j : Nat) (hj : j < bs.length) (x y z r : Int) (hb : bs[j] = ⟨⟨x, y, z⟩, r⟩) (hx : In x) (hy : In y) (hz : In z) (hr : In r) (l1 : n1 ≤ 9223372036854775807) (i : Int) (hi2 : i ≤ 9223372036854775807) (hi : i = (n1 : Int) + (j : Int)) : Calls Tryz.prog 23 #[mvals a0 n0 c0 a1 n1 c1 a2 n2 c2, .int .i64 i] w (VTo (boxV (ballB ⟨⟨x, y, z⟩, r⟩)) w) := by
 have hjn : j < n2 := by rw [hbs.fits]; exact hj
 have d0 : decide (i < 0) = false := decide_eq_false (by omega)
 have d1 : decide (N ≤ i) = false := decide_eq_false (by omega)
 have d2 : decide ((n1 : Int) ≤ i) = true := decide_eq_true (by omega)
 have wr : IntKind.i64.wrap (i - (n1 : Int)) = (j : Int) := by rw [wrap_in (by omega) (by omega)]; omega
 have d3 : decide ((j : Int) < (n2 : Int)) = true := decide_eq_true (by omega)
 have d4 : decide (j < n2) = true := decide_eq_true hjn
 have Q1 := Lib.hid (fun W => qs (P := Tryz.prog) (W := W) (fun w2 => sub_any x r hx.1 hx.2 hr.1 hr.2 w2))
 have Q2 := Lib.hid (fun W => qs (P := Tryz.prog) (W := W) (fun w2 => sub_any y r hy.1 hy.2 hr.1 hr.2 w2))
 have Q3 := Lib.hid (fun W => qs (P := Tryz.prog) (W := W) (fun w2 => sub_any z r hz.1 hz.2 hr.1 hr.2 w2))
 have Q4 := Lib.hid (fun W => qs (P := Tryz.prog) (W := W) (fun w2 => add_any x r hx.1 hx.2 hr.1 hr.2 w2))
 have Q5 := Lib.hid (fun W => qs (P := Tryz.prog) (W := W) (fun w2 => add_any y r hy.1 hy.2 hr.1 hr.2 w2))
 have Q6 := Lib.hid (fun W => qs (P := Tryz.prog) (W := W) (fun w2 => add_any z r hz.1 hz.2 hr.1 hr.2 w2))
 have HBS := Lib.hid hbs
 have HJ := Lib.hid hb
 clear hN hi hi2 hx hy hz hr l1 hbs hb
 unfold ballB
 dsimp only
 obtain ⟨e1, he1⟩ : ∃ e, e = subF x r := ⟨_, rfl⟩
 rw [← he1] at Q1 ⊢
 obtain ⟨e2, he2⟩ : ∃ e, e = subF y r := ⟨_, rfl⟩
 rw [← he2] at Q2 ⊢
 obtain ⟨e3, he3⟩ : ∃ e, e = subF z r := ⟨_, rfl⟩
 rw [← he3] at Q3 ⊢
 obtain ⟨e4, he4⟩ : ∃ e, e = addF x r := ⟨_, rfl⟩
 rw [← he4] at Q4 ⊢
 obtain ⟨e5, he5⟩ : ∃ e, e = addF y r := ⟨_, rfl⟩
 rw [← he5] at Q5 ⊢
 obtain ⟨e6, he6⟩ : ∃ e, e = addF z r := ⟨_, rfl⟩
 rw [← he6] at Q6 ⊢
 clear he1 he2 he3 he4 he5 he6
 obtain ⟨W, hW⟩ : ∃ W, W = W2 w a0 n0 c0 a1 n1 c1 a2 n2 c2 := ⟨_, rfl⟩
 have hB : Below w.heap.size w W := by rw [hW]; exact alloc2_below _ _ _
 have hR : W.heap[w.heap.size]? = some (.cells #[.slice a0 n0 c0, .slice a1 n1 c1, .slice a2 n2 c2] 31) := by rw [hW]; exact alloc2_0 _ _ _
 have hZ : W.heap[w.heap.size + 1]? = some (.cells #[.int .i64 0, .int .i64 0, .int .i64 0, .int .i64 0, .int .i64 0, .int .i64 0] 72) := by rw [hW]; exact alloc2_1 _ _ _
 have k0 := cell_row hR 0 (.slice a0 n0 c0) rfl
 have k1 := cell_row hR 1 (.slice a1 n1 c1) rfl
 have k2 := cell_row hR 2 (.slice a2 n2 c2) rfl
 have HR := Lib.hid hR
 have HB := Lib.hid hB
 have HZ := Lib.hid hZ
 have HWW := Lib.hid hW
 rw [hW] at k0 k1 k2
 clear hR hB hZ hW
 unfold mvals W2 at *
 go_enter Tryz.func23, Tryz.ntmps23
 go_wp2_with fail
 rw [← HWW.out]
 clear k0 k1 k2
 refine (CT.out _ HB.out).mono ?_
 rintro e w1 ⟨rfl, hb1⟩
 have HB1 := Lib.hid (HB.out.trans (hb1.mono HB.out.size))
 have HZ1 := Lib.hid (vec_step HZ.out hb1)
 have HR1 := Lib.hid (vec_step HR.out hb1)
 have HW1 := Lib.hid (HB.out.trans (hb1.mono HB.out.size))
 clear hb1 CT HB HZ HR HWW
 have k0 := cell_row HR1.out 0 (.slice a0 n0 c0) rfl
 have k1 := cell_row HR1.out 1 (.slice a1 n1 c1) rfl
 have k2 := cell_row HR1.out 2 (.slice a2 n2 c2) rfl
 obtain ⟨b, off, e, hbl, p0, p1, p2, p3⟩ := at4 (HBS.out.below HW1.out (Nat.le_refl _)) j hj
 subst e
 rw [HJ.out] at p0 p1 p2 p3
 clear HBS HJ hbl
 dsimp only at p0 p1 p2 p3
 go_upto_region 5 with (with_reducible refine store_ball rfl (.tmp 5) (.tmp 32) rfl rfl w1.heap.size x y z r rfl rfl _ (heap_alloc_new _ _) rfl ?_)
 clear k0 k1 k2 p0 p1 p2 p3
 have H5 := Lib.hid (put4_row w1 51 #[.int .i64 0, .int .i64 0, .int .i64 0, .int .i64 0] #[.int .i64 x, .int .i64 y, .int .i64 z, .int .i64 r])
 have HB5 := Lib.hid (put_ext w1 (.cells #[.int .i64 0, .int .i64 0, .int .i64 0, .int .i64 0] 51) #[.int .i64 x, .int .i64 y, .int .i64 z, .int .i64 r])
 have HB2 := Lib.hid (HB1.out.trans (HB5.out.mono HB1.out.size))
 have HZ2 := Lib.hid (vec_step HZ1.out HB5.out)
 clear HB1 HB5 HR1 HZ1 HW1
 obtain ⟨W3, hW3⟩ : ∃ W, W = (w1.alloc (.cells #[.int .i64 0, .int .i64 0, .int .i64 0, .int .i64 0] 51)).setRow w1.heap.size #[.int .i64 x, .int .i64 y, .int .i64 z, .int .i64 r] := ⟨_, rfl⟩
 rw [← hW3] at H5 HB2 HZ2 ⊢
 clear hW3
 generalize w1.heap.size = g5 at H5 ⊢
 have c0 := cell_all H5.out 0 (.int .i64 x) rfl
 have c1 := cell_all H5.out 1 (.int .i64 y) rfl
 have c2 := cell_all H5.out 2 (.int .i64 z) rfl
 have c3 := cell_all H5.out 3 (.int .i64 r) rfl
 refine wp_region_below_tail 39 (by kernel_rfl) (by kernel_rfl) ?_
 simp only [List.take_succ_cons, List.take_zero, List.drop_succ_cons, List.drop_zero]
 repeat (go_big_quiet_step (first | (with_reducible exact Q1.out _ _ _) | (with_reducible exact Q2.out _ _ _) | (with_reducible exact Q3.out _ _ _) | (with_reducible exact Q4.out _ _ _) | (with_reducible exact Q5.out _ _ _) | (with_reducible exact Q6.out _ _ _)))
 refine wpQuiet_nil ?_
 rintro _ ⟨⟨dq, osq⟩, rfl⟩
 have HZ3 := Lib.hid (heap_regrown HZ2.out dq osq)
 have HB3 := Lib.hid (HB2.out.trans ((below_regrown W3 dq osq).mono HB2.out.size))
 clear c0 c1 c2 c3 HZ2 HB2 H5
 refine store_box rfl (.tmp 4) (.tmp 71) rfl rfl (w.heap.size + 1) e1 e2 e3 e4 e5 e6 rfl rfl _ HZ3.out rfl ?_
 go_wp2_with fail
 refine bodyPost_ret (results_cell_row rfl _ _ (w.heap.size + 1) 72 _ _ _ rfl (setRow_heap _ (w.heap.size + 1) _ _ _ _ (HZ3.out)) Tryz.underlying72 rfl box_size) rfl ?_
 exact ⟨rfl, below_setRow HB3.out (by omega) _⟩

set_option maxRecDepth 100000 in
set_option maxHeartbeats 4000000 in
theorem box_hasnt (w : World) (a0 : Option Addr) (n0 c0 : Nat) (a1 : Option Addr) (n1 c1 : Nat) (a2 : Option Addr) (n2 c2 : Nat) (N : Int) (hN : N = (n1 : Int) + (n2 : Int)) (CT : Hid (∀ w', Below w.heap.size w w' → Calls Tryz.prog 22 #[mvals a0 n0 c0 a1 n1 c1 a2 n2 c2] w' (VTo (.int .i64 N) w'))) (ts : List V3) (hts : Recs 3 enc3 w (.slice a1 n1 c1) ts) (j : Nat) (hj : j < ts.length) (x y z : Int) (ht : ts[j] = ⟨x, y, z⟩) (l0 : n0 ≤ 9223372036854775807) (hh : hasF n0 ⟨x, y, z⟩ = false) : Calls Tryz.prog 23 #[mvals a0 n0 c0 a1 n1 c1 a2 n2 c2, .int .i64 (j : Int)] w (VTo (boxV zeroB) w) := by
 have hjn : j < n1 := by rw [hts.fits]; exact hj
 have d0 : decide ((j : Int) < 0) = false := decide_eq_false (by omega)
 have d1 : decide (N ≤ (j : Int)) = false := decide_eq_false (by omega)
 have d2 : decide ((n1 : Int) ≤ (j : Int)) = false := decide_eq_false (by omega)
 have d2' : decide (n1 ≤ j) = false := decide_eq_false (by omega)
 have d3 : decide ((j : Int) < (n1 : Int)) = true := decide_eq_true (by omega)
 have d4 : decide (j < n1) = true := decide_eq_true hjn
 have CH := Lib.hid (fun w => (hh ▸ has_any n0 l0 ⟨x, y, z⟩ w : Calls Tryz.prog 37 #[.int .i64 (n0 : Int), .agg #[.int .i64 x, .int .i64 y, .int .i64 z]] w (VTo (.bool false) w)))
 have HTS := Lib.hid hts
 have HJ := Lib.hid ht
 clear hN hts ht hh l0
 obtain ⟨W, hW⟩ : ∃ W, W = W2 w a0 n0 c0 a1 n1 c1 a2 n2 c2 := ⟨_, rfl⟩
 have hB : Below w.heap.size w W := by rw [hW]; exact alloc2_below _ _ _
 have hR : W.heap[w.heap.size]? = some (.cells #[.slice a0 n0 c0, .slice a1 n1 c1, .slice a2 n2 c2] 31) := by rw [hW]; exact alloc2_0 _ _ _
 have hZ : W.heap[w.heap.size + 1]? = some (.cells #[.int .i64 0, .int .i64 0, .int .i64 0, .int .i64 0, .int .i64 0, .int .i64 0] 72) := by rw [hW]; exact alloc2_1 _ _ _
 have k0 := cell_row hR 0 (.slice a0 n0 c0) rfl
 have k1 := cell_row hR 1 (.slice a1 n1 c1) rfl
 have k2 := cell_row hR 2 (.slice a2 n2 c2) rfl
 have HR := Lib.hid hR
 have HB := Lib.hid hB
 have HZ := Lib.hid hZ
 have HWW := Lib.hid hW
 rw [hW] at k0 k1 k2
 clear hR hB hZ hW
 unfold mvals W2 at *
 go_enter Tryz.func23, Tryz.ntmps23
 go_wp2_with fail
 rw [← HWW.out]
 clear k0 k1 k2
 refine (CT.out _ HB.out).mono ?_
 rintro e w1 ⟨rfl, hb1⟩
 have HB1 := Lib.hid (HB.out.trans (hb1.mono HB.out.size))
 have HZ1 := Lib.hid (vec_step HZ.out hb1)
 have HR1 := Lib.hid (vec_step HR.out hb1)
 have HW1 := Lib.hid (HB.out.trans (hb1.mono HB.out.size))
 clear hb1 CT HB HZ HR HWW
 have k0 := cell_row HR1.out 0 (.slice a0 n0 c0) rfl
 have k1 := cell_row HR1.out 1 (.slice a1 n1 c1) rfl
 have k2 := cell_row HR1.out 2 (.slice a2 n2 c2) rfl
 obtain ⟨b, off, e, hbl, p0, p1, p2⟩ := at3 (HTS.out.below HW1.out (Nat.le_refl _)) j hj
 subst e
 rw [HJ.out] at p0 p1 p2
 clear HTS HJ hbl
 dsimp only at p0 p1 p2
 go_upto_region 7 with (with_reducible refine store_tri rfl (.tmp 6) (.tmp 76) rfl rfl w1.heap.size x y z rfl rfl _ (heap_alloc_new _ _) rfl ?_)
 clear k0 k1 k2 p0 p1 p2
 have H6 := Lib.hid (put4_row w1 52 #[.int .i64 0, .int .i64 0, .int .i64 0] #[.int .i64 x, .int .i64 y, .int .i64 z])
 have HB6 := Lib.hid (put_ext w1 (.cells #[.int .i64 0, .int .i64 0, .int .i64 0] 52) #[.int .i64 x, .int .i64 y, .int .i64 z])
 have HB2 := Lib.hid (HB1.out.trans (HB6.out.mono HB1.out.size))
 have HZ2 := Lib.hid (vec_step HZ1.out HB6.out)
 have HR2 := Lib.hid (vec_step HR1.out HB6.out)
 clear HB1 HB6 HR1 HZ1 HW1
 obtain ⟨W3, hW3⟩ : ∃ W, W = (w1.alloc (.cells #[.int .i64 0, .int .i64 0, .int .i64 0] 52)).setRow w1.heap.size #[.int .i64 x, .int .i64 y, .int .i64 z] := ⟨_, rfl⟩
 rw [← hW3] at H6 HB2 HZ2 HR2 ⊢
 clear hW3
 generalize w1.heap.size = g6 at H6 ⊢
 obtain ⟨c0', c1', c2'⟩ := cells_now H6.out
 have k0 := cell_row HR2.out 0 (.slice a0 n0 c0) rfl
 go_wp2_with fail
 refine (CH.out _).mono ?_
 rintro e w4 ⟨rfl, hb4⟩
 have HB4 := Lib.hid (HB2.out.trans (hb4.mono HB2.out.size))
 have HZ4 := Lib.hid (vec_step HZ2.out hb4)
 clear hb4 c0' c1' c2' k0 HB2 HZ2
 go_wp2_with (with_reducible refine store_box rfl (.tmp 4) (.tmp 83) rfl rfl (w.heap.size + 1) 0 0 0 0 0 0 rfl rfl _ HZ4.out rfl ?_)
 refine bodyPost_ret (results_cell_row rfl _ _ (w.heap.size + 1) 72 _ _ _ rfl (setRow_heap _ (w.heap.size + 1) _ _ _ _ (HZ4.out)) Tryz.underlying72 rfl box_size) rfl ?_
 exact ⟨rfl, below_setRow HB4.out (by omega) _⟩

set_option maxRecDepth 100000 in
set_option maxHeartbeats 4000000 in
theorem box_tri (w : World) (a0 : Option Addr) (n0 c0 : Nat) (a1 : Option Addr) (n1 c1 : Nat) (a2 : Option Addr) (n2 c2 : Nat) (N : Int) (hN : N = (n1 : Int) + (n2 : Int)) (CT : Hid (∀ w', Below w.heap.size w w' → Calls Tryz.prog 22 #[mvals a0 n0 c0 a1 n1 c1 a2 n2 c2] w' (VTo (.int .i64 N) w'))) (ts ps : List V3) (hts : Recs 3 enc3 w (.slice a1 n1 c1) ts) (hps : Recs 3 enc3 w (.slice a0 n0 c0) ps) (j : Nat) (hj : j < ts.length) (x y z : Nat) (ht : ts[j] = ⟨(x : Int), (y : Int), (z : Int)⟩) (hx : x < ps.length) (hy : y < ps.length) (hz : z < ps.length) (l0 : n0 ≤ 9223372036854775807) (hh : hasF n0 ⟨(x : Int), (y : Int), (z : Int)⟩ = true) : Calls Tryz.prog 23 #[mvals a0 n0 c0 a1 n1 c1 a2 n2 c2, .int .i64 (j : Int)] w (VTo (boxV (triB ps[x] ps[y] ps[z])) w) := by
 have hjn : j < n1 := by rw [hts.fits]; exact hj
 have hxn : x < n0 := by rw [hps.fits]; exact hx
 have hyn : y < n0 := by rw [hps.fits]; exact hy
 have hzn : z < n0 := by rw [hps.fits]; exact hz
 have d0 : decide ((j : Int) < 0) = false := decide_eq_false (by omega)
 have d1 : decide (N ≤ (j : Int)) = false := decide_eq_false (by omega)
 have d2 : decide ((n1 : Int) ≤ (j : Int)) = false := decide_eq_false (by omega)
 have d2' : decide (n1 ≤ j) = false := decide_eq_false (by omega)
 have d3 : decide ((j : Int) < (n1 : Int)) = true := decide_eq_true (by omega)
 have d4 : decide (j < n1) = true := decide_eq_true hjn
 have CH := Lib.hid (fun w => (hh ▸ has_any n0 l0 ⟨(x : Int), (y : Int), (z : Int)⟩ w : Calls Tryz.prog 37 #[.int .i64 (n0 : Int), .agg #[.int .i64 (x : Int), .int .i64 (y : Int), .int .i64 (z : Int)]] w (VTo (.bool true) w)))
 have HTS := Lib.hid hts
 have HPS := Lib.hid hps
 have HJ := Lib.hid ht
 have DX := Lib.hid hxn
 have DY := Lib.hid hyn
 have DZ := Lib.hid hzn
 clear hN hts hps ht hh l0 hxn hyn hzn
 obtain ⟨⟨pax, pay, paz⟩, hppa⟩ : ∃ p, p = ps[x] := ⟨_, rfl⟩
 rw [← hppa]
 have HPpa := Lib.hid hppa
 clear hppa
 obtain ⟨⟨pbx, pby, pbz⟩, hppb⟩ : ∃ p, p = ps[y] := ⟨_, rfl⟩
 rw [← hppb]
 have HPpb := Lib.hid hppb
 clear hppb
 obtain ⟨⟨pcx, pcy, pcz⟩, hppc⟩ : ∃ p, p = ps[z] := ⟨_, rfl⟩
 rw [← hppc]
 have HPpc := Lib.hid hppc
 clear hppc
 unfold triB
 dsimp only
 obtain ⟨lx, hlx⟩ : ∃ e, e = min3 pax pbx pcx := ⟨_, rfl⟩
 have Mlx := min_at hlx
 rw [← hlx]
 clear hlx
 obtain ⟨ly, hly⟩ : ∃ e, e = min3 pay pby pcy := ⟨_, rfl⟩
 have Mly := min_at hly
 rw [← hly]
 clear hly
 obtain ⟨lz, hlz⟩ : ∃ e, e = min3 paz pbz pcz := ⟨_, rfl⟩
 have Mlz := min_at hlz
 rw [← hlz]
 clear hlz
 obtain ⟨ux, hux⟩ : ∃ e, e = max3 pax pbx pcx := ⟨_, rfl⟩
 have Mux := max_at hux
 rw [← hux]
 clear hux
 obtain ⟨uy, huy⟩ : ∃ e, e = max3 pay pby pcy := ⟨_, rfl⟩
 have Muy := max_at huy
 rw [← huy]
 clear huy
 obtain ⟨uz, huz⟩ : ∃ e, e = max3 paz pbz pcz := ⟨_, rfl⟩
 have Muz := max_at huz
 rw [← huz]
 clear huz
 obtain ⟨W, hW⟩ : ∃ W, W = W2 w a0 n0 c0 a1 n1 c1 a2 n2 c2 := ⟨_, rfl⟩
 have hB : Below w.heap.size w W := by rw [hW]; exact alloc2_below _ _ _
 have hR : W.heap[w.heap.size]? = some (.cells #[.slice a0 n0 c0, .slice a1 n1 c1, .slice a2 n2 c2] 31) := by rw [hW]; exact alloc2_0 _ _ _
 have hZ : W.heap[w.heap.size + 1]? = some (.cells #[.int .i64 0, .int .i64 0, .int .i64 0, .int .i64 0, .int .i64 0, .int .i64 0] 72) := by rw [hW]; exact alloc2_1 _ _ _
 have k0 := cell_row hR 0 (.slice a0 n0 c0) rfl
 have k1 := cell_row hR 1 (.slice a1 n1 c1) rfl
 have k2 := cell_row hR 2 (.slice a2 n2 c2) rfl
 have HR := Lib.hid hR
 have HB := Lib.hid hB
 have HZ := Lib.hid hZ
 have HWW := Lib.hid hW
 rw [hW] at k0 k1 k2
 clear hR hB hZ hW
 unfold mvals W2 at *
 go_enter Tryz.func23, Tryz.ntmps23
 go_wp2_with fail
 rw [← HWW.out]
 clear k0 k1 k2
 refine (CT.out _ HB.out).mono ?_
 rintro e w1 ⟨rfl, hb1⟩
 have HB1 := Lib.hid (HB.out.trans (hb1.mono HB.out.size))
 have HZ1 := Lib.hid (vec_step HZ.out hb1)
 have HR1 := Lib.hid (vec_step HR.out hb1)
 have HW1 := Lib.hid (HB.out.trans (hb1.mono HB.out.size))
 clear hb1 CT HB HZ HR HWW
 have k0 := cell_row HR1.out 0 (.slice a0 n0 c0) rfl
 have k1 := cell_row HR1.out 1 (.slice a1 n1 c1) rfl
 have k2 := cell_row HR1.out 2 (.slice a2 n2 c2) rfl
 obtain ⟨b, off, e, hbl, p0, p1, p2⟩ := at3 (HTS.out.below HW1.out (Nat.le_refl _)) j hj
 subst e
 rw [HJ.out] at p0 p1 p2
 clear HTS HJ hbl
 dsimp only at p0 p1 p2
 go_upto_region 7 with (with_reducible refine store_tri rfl (.tmp 6) (.tmp 76) rfl rfl w1.heap.size x y z rfl rfl _ (heap_alloc_new _ _) rfl ?_)
 clear k0 k1 k2 p0 p1 p2
 have H6 := Lib.hid (put4_row w1 52 #[.int .i64 0, .int .i64 0, .int .i64 0] #[.int .i64 x, .int .i64 y, .int .i64 z])
 have HB6 := Lib.hid (put_ext w1 (.cells #[.int .i64 0, .int .i64 0, .int .i64 0] 52) #[.int .i64 x, .int .i64 y, .int .i64 z])
 have HB2 := Lib.hid (HB1.out.trans (HB6.out.mono HB1.out.size))
 have HZ2 := Lib.hid (vec_step HZ1.out HB6.out)
 have HR2 := Lib.hid (vec_step HR1.out HB6.out)
 clear HB1 HB6 HR1 HZ1 HW1
 obtain ⟨W3, hW3⟩ : ∃ W, W = (w1.alloc (.cells #[.int .i64 0, .int .i64 0, .int .i64 0] 52)).setRow w1.heap.size #[.int .i64 x, .int .i64 y, .int .i64 z] := ⟨_, rfl⟩
 rw [← hW3] at H6 HB2 HZ2 HR2 ⊢
 clear hW3
 generalize w1.heap.size = g6 at H6 ⊢
 obtain ⟨c0', c1', c2'⟩ := cells_now H6.out
 have k0 := cell_row HR2.out 0 (.slice a0 n0 c0) rfl
 go_wp2_with fail
 refine (CH.out _).mono ?_
 rintro e w4 ⟨rfl, hb4⟩
 have HB4 := Lib.hid (HB2.out.trans (hb4.mono HB2.out.size))
 have HZ4 := Lib.hid (vec_step HZ2.out hb4)
 have HR4 := Lib.hid (vec_step HR2.out hb4)
 have HT4 := Lib.hid (vec_step H6.out hb4)
 have HP4 := Lib.hid (HPS.out.below HB4.out (Nat.le_refl _))
 clear hb4 c0' c1' c2' k0 HB2 HZ2 HR2 H6 HPS
 go_upto_region 9 with (fail)
 have K0 := Lib.hid (fun W9 (hb : Below w4.heap.size w4 W9) => cell_all (vec_step HR4.out hb) 0 _ rfl)
 have KT := Lib.hid (fun W9 (hb : Below w4.heap.size w4 W9) => cells3 (vec_step HT4.out hb))
 have hps4 := HP4.out
 obtain ⟨b4, off4, e4, hb4', _, _, _⟩ := at3 hps4 x hx
 subst e4
 have HPS4 := Lib.hid hps4
 clear hps4 hb4'
 have Kpa : Hid (∀ W9, Below w4.heap.size w4 W9 → (∀ d os, (grow (redrawn W9 d) os).cell? ⟨b4, off4 + x * 3, none⟩ = some (.int .i64 pax)) ∧ (∀ d os, (grow (redrawn W9 d) os).cell? ⟨b4, off4 + x * 3 + 1, none⟩ = some (.int .i64 pay)) ∧ (∀ d os, (grow (redrawn W9 d) os).cell? ⟨b4, off4 + x * 3 + 2, none⟩ = some (.int .i64 paz))) := by
  refine Lib.hid (fun W9 hb => ?_)
  obtain ⟨b5, off5, e5, _, q0, q1, q2⟩ := at3 (HPS4.out.below hb (Nat.le_refl _)) x hx
  simp only [Option.some.injEq, Addr.mk.injEq, and_true] at e5
  obtain ⟨rfl, rfl⟩ := e5
  rw [← HPpa.out] at q0 q1 q2
  exact ⟨fun d os => cell_regrown q0 d os, fun d os => cell_regrown q1 d os, fun d os => cell_regrown q2 d os⟩
 have Kpb : Hid (∀ W9, Below w4.heap.size w4 W9 → (∀ d os, (grow (redrawn W9 d) os).cell? ⟨b4, off4 + y * 3, none⟩ = some (.int .i64 pbx)) ∧ (∀ d os, (grow (redrawn W9 d) os).cell? ⟨b4, off4 + y * 3 + 1, none⟩ = some (.int .i64 pby)) ∧ (∀ d os, (grow (redrawn W9 d) os).cell? ⟨b4, off4 + y * 3 + 2, none⟩ = some (.int .i64 pbz))) := by
  refine Lib.hid (fun W9 hb => ?_)
  obtain ⟨b5, off5, e5, _, q0, q1, q2⟩ := at3 (HPS4.out.below hb (Nat.le_refl _)) y hy
  simp only [Option.some.injEq, Addr.mk.injEq, and_true] at e5
  obtain ⟨rfl, rfl⟩ := e5
  rw [← HPpb.out] at q0 q1 q2
  exact ⟨fun d os => cell_regrown q0 d os, fun d os => cell_regrown q1 d os, fun d os => cell_regrown q2 d os⟩
 have Kpc : Hid (∀ W9, Below w4.heap.size w4 W9 → (∀ d os, (grow (redrawn W9 d) os).cell? ⟨b4, off4 + z * 3, none⟩ = some (.int .i64 pcx)) ∧ (∀ d os, (grow (redrawn W9 d) os).cell? ⟨b4, off4 + z * 3 + 1, none⟩ = some (.int .i64 pcy)) ∧ (∀ d os, (grow (redrawn W9 d) os).cell? ⟨b4, off4 + z * 3 + 2, none⟩ = some (.int .i64 pcz))) := by
  refine Lib.hid (fun W9 hb => ?_)
  obtain ⟨b5, off5, e5, _, q0, q1, q2⟩ := at3 (HPS4.out.below hb (Nat.le_refl _)) z hz
  simp only [Option.some.injEq, Addr.mk.injEq, and_true] at e5
  obtain ⟨rfl, rfl⟩ := e5
  rw [← HPpc.out] at q0 q1 q2
  exact ⟨fun d os => cell_regrown q0 d os, fun d os => cell_regrown q1 d os, fun d os => cell_regrown q2 d os⟩
 clear HPS4 HPpa HPpb HPpc
 have HRR := Lib.hid (HR4.out)
 refine wp_region_free 147 [0, 1, 2, 3, 4, 5, 6, 7, 8, 9, 10, 11, 12, 13, 14, 15, 16, 17] [⟨18, 7, #[.int .i64 0, .int .i64 0, .int .i64 0], 46, 21, 89, #[.int .i64 pax, .int .i64 pay, .int .i64 paz]⟩, ⟨19, 8, #[.int .i64 0, .int .i64 0, .int .i64 0], 46, 22, 95, #[.int .i64 pbx, .int .i64 pby, .int .i64 pbz]⟩, ⟨20, 9, #[.int .i64 0, .int .i64 0, .int .i64 0], 46, 23, 101, #[.int .i64 pcx, .int .i64 pcy, .int .i64 pcz]⟩] (by kernel_rfl) rfl (by kernel_rfl) (by
  intro x hx
  simp only [List.mem_cons, List.not_mem_nil, or_false] at hx
  rcases hx with rfl | rfl | rfl
  ·
   exact ⟨⟨_, rfl, ⟨⟨_, rfl, alloc_vec⟩, rfl, rfl⟩⟩, _, rfl, ⟨⟨_, rfl, vec_size⟩, rfl, rfl, rfl, row_one _ _ _⟩⟩
  ·
   exact ⟨⟨_, rfl, ⟨⟨_, rfl, alloc_vec⟩, rfl, rfl⟩⟩, _, rfl, ⟨⟨_, rfl, vec_size⟩, rfl, rfl, rfl, row_one _ _ _⟩⟩
  ·
   exact ⟨⟨_, rfl, ⟨⟨_, rfl, alloc_vec⟩, rfl, rfl⟩⟩, _, rfl, ⟨⟨_, rfl, vec_size⟩, rfl, rfl, rfl, row_one _ _ _⟩⟩) ?_
 refine Walk.step (A := ?A0) (o := ?o0) ?e0 ?w0 84 ?d0 (by simp) ?h0 ?n0
 case e0 => simp only [List.getElem?_toArray, List.getElem?_cons_succ, List.getElem?_cons_zero]; exact rfl
 case w0 => exact rfl
 case d0 => exact rfl
 case h0 =>
  intro W9 hW9
  go_big_quiet_op
  exact rfl
 refine Walk.step (A := ?A1) (o := ?o1) ?e1 ?w1 85 ?d1 (by simp) ?h1 ?n1
 case e1 => simp only [List.getElem?_toArray, List.getElem?_cons_succ, List.getElem?_cons_zero]; exact rfl
 case w1 => exact rfl
 case d1 => exact rfl
 case h1 =>
  intro W9 hW9
  have z0 := K0.out W9 hW9
  go_big_quiet_op
  exact rfl
 refine Walk.step (A := ?A2) (o := ?o2) ?e2 ?w2 86 ?d2 (by simp) ?h2 ?n2
 case e2 => simp only [List.getElem?_toArray, List.getElem?_cons_succ, List.getElem?_cons_zero]; exact rfl
 case w2 => exact rfl
 case d2 => exact rfl
 case h2 =>
  intro W9 hW9
  go_big_quiet_op
  exact rfl
 refine Walk.step (A := ?A3) (o := ?o3) ?e3 ?w3 87 ?d3 (by simp) ?h3 ?n3
 case e3 => simp only [List.getElem?_toArray, List.getElem?_cons_succ, List.getElem?_cons_zero]; exact rfl
 case w3 => exact rfl
 case d3 => exact rfl
 case h3 =>
  intro W9 hW9
  obtain ⟨z0, z1, z2⟩ := KT.out W9 hW9
  go_big_quiet_op
  exact rfl
 refine Walk.step (A := ?A4) (o := ?o4) ?e4 ?w4 88 ?d4 (by simp) ?h4 ?n4
 case e4 => simp only [List.getElem?_toArray, List.getElem?_cons_succ, List.getElem?_cons_zero]; exact rfl
 case w4 => exact rfl
 case d4 => exact rfl
 case h4 =>
  intro W9 hW9
  have z0 := DX.out
  go_big_quiet_op
  exact rfl
 refine Walk.step (A := ?A5) (o := ?o5) ?e5 ?w5 89 ?d5 (by simp) ?h5 ?n5
 case e5 => simp only [List.getElem?_toArray, List.getElem?_cons_succ, List.getElem?_cons_zero]; exact rfl
 case w5 => exact rfl
 case d5 => exact rfl
 case h5 =>
  intro W9 hW9
  obtain ⟨z0, z1, z2⟩ := Kpa.out W9 hW9
  go_big_quiet_op
  exact rfl
 refine Walk.step (A := ?A6) (o := ?o6) ?e6 ?w6 90 ?d6 (by simp) ?h6 ?n6
 case e6 => simp only [List.getElem?_toArray, List.getElem?_cons_succ, List.getElem?_cons_zero]; exact rfl
 case w6 => exact rfl
 case d6 => exact rfl
 case h6 =>
  intro W9 hW9
  go_big_quiet_op
  exact rfl
 refine Walk.step (A := ?A7) (o := ?o7) ?e7 ?w7 91 ?d7 (by simp) ?h7 ?n7
 case e7 => simp only [List.getElem?_toArray, List.getElem?_cons_succ, List.getElem?_cons_zero]; exact rfl
 case w7 => exact rfl
 case d7 => exact rfl
 case h7 =>
  intro W9 hW9
  have z0 := K0.out W9 hW9
  go_big_quiet_op
  exact rfl
 refine Walk.step (A := ?A8) (o := ?o8) ?e8 ?w8 92 ?d8 (by simp) ?h8 ?n8
 case e8 => simp only [List.getElem?_toArray, List.getElem?_cons_succ, List.getElem?_cons_zero]; exact rfl
 case w8 => exact rfl
 case d8 => exact rfl
 case h8 =>
  intro W9 hW9
  go_big_quiet_op
  exact rfl
 refine Walk.step (A := ?A9) (o := ?o9) ?e9 ?w9 93 ?d9 (by simp) ?h9 ?n9
 case e9 => simp only [List.getElem?_toArray, List.getElem?_cons_succ, List.getElem?_cons_zero]; exact rfl
 case w9 => exact rfl
 case d9 => exact rfl
 case h9 =>
  intro W9 hW9
  obtain ⟨z0, z1, z2⟩ := KT.out W9 hW9
  go_big_quiet_op
  exact rfl
 refine Walk.step (A := ?A10) (o := ?o10) ?e10 ?w10 94 ?d10 (by simp) ?h10 ?n10
 case e10 => simp only [List.getElem?_toArray, List.getElem?_cons_succ, List.getElem?_cons_zero]; exact rfl
 case w10 => exact rfl
 case d10 => exact rfl
 case h10 =>
  intro W9 hW9
  have z0 := DY.out
  go_big_quiet_op
  exact rfl
 refine Walk.step (A := ?A11) (o := ?o11) ?e11 ?w11 95 ?d11 (by simp) ?h11 ?n11
 case e11 => simp only [List.getElem?_toArray, List.getElem?_cons_succ, List.getElem?_cons_zero]; exact rfl
 case w11 => exact rfl
 case d11 => exact rfl
 case h11 =>
  intro W9 hW9
  obtain ⟨z0, z1, z2⟩ := Kpb.out W9 hW9
  go_big_quiet_op
  exact rfl
 refine Walk.step (A := ?A12) (o := ?o12) ?e12 ?w12 96 ?d12 (by simp) ?h12 ?n12
 case e12 => simp only [List.getElem?_toArray, List.getElem?_cons_succ, List.getElem?_cons_zero]; exact rfl
 case w12 => exact rfl
 case d12 => exact rfl
 case h12 =>
  intro W9 hW9
  go_big_quiet_op
  exact rfl
 refine Walk.step (A := ?A13) (o := ?o13) ?e13 ?w13 97 ?d13 (by simp) ?h13 ?n13
 case e13 => simp only [List.getElem?_toArray, List.getElem?_cons_succ, List.getElem?_cons_zero]; exact rfl
 case w13 => exact rfl
 case d13 => exact rfl
 case h13 =>
  intro W9 hW9
  have z0 := K0.out W9 hW9
  go_big_quiet_op
  exact rfl
 refine Walk.step (A := ?A14) (o := ?o14) ?e14 ?w14 98 ?d14 (by simp) ?h14 ?n14
 case e14 => simp only [List.getElem?_toArray, List.getElem?_cons_succ, List.getElem?_cons_zero]; exact rfl
 case w14 => exact rfl
 case d14 => exact rfl
 case h14 =>
  intro W9 hW9
  go_big_quiet_op
  exact rfl
 refine Walk.step (A := ?A15) (o := ?o15) ?e15 ?w15 99 ?d15 (by simp) ?h15 ?n15
 case e15 => simp only [List.getElem?_toArray, List.getElem?_cons_succ, List.getElem?_cons_zero]; exact rfl
 case w15 => exact rfl
 case d15 => exact rfl
 case h15 =>
  intro W9 hW9
  obtain ⟨z0, z1, z2⟩ := KT.out W9 hW9
  go_big_quiet_op
  exact rfl
 refine Walk.step (A := ?A16) (o := ?o16) ?e16 ?w16 100 ?d16 (by simp) ?h16 ?n16
 case e16 => simp only [List.getElem?_toArray, List.getElem?_cons_succ, List.getElem?_cons_zero]; exact rfl
 case w16 => exact rfl
 case d16 => exact rfl
 case h16 =>
  intro W9 hW9
  have z0 := DZ.out
  go_big_quiet_op
  exact rfl
 refine Walk.step (A := ?A17) (o := ?o17) ?e17 ?w17 101 ?d17 (by simp) ?h17 ?n17
 case e17 => simp only [List.getElem?_toArray, List.getElem?_cons_succ, List.getElem?_cons_zero]; exact rfl
 case w17 => exact rfl
 case d17 => exact rfl
 case h17 =>
  intro W9 hW9
  obtain ⟨z0, z1, z2⟩ := Kpc.out W9 hW9
  go_big_quiet_op
  exact rfl
 refine ⟨?_, ?_⟩
 ·
  intro x hx
  simp only [List.mem_cons, List.not_mem_nil, or_false] at hx
  rcases hx with rfl | rfl | rfl <;> rfl
 intro G hG hne w5 hD5 hk
 have k7 := hk _ (List.mem_cons_self ..)
 have k8 := hk _ (List.mem_cons_of_mem _ (List.mem_cons_self ..))
 have k9 := hk _ (List.mem_cons_of_mem _ (List.mem_cons_of_mem _ (List.mem_cons_self ..)))
 dsimp only at k7 k8 k9
 simp only [lay, Act.put, List.setIfInBounds_toArray, List.set_cons_succ, List.set_cons_zero, ptr]
 generalize G 18 = g7 at k7 ⊢
 generalize G 19 = g8 at k8 ⊢
 generalize G 20 = g9 at k9 ⊢
 obtain ⟨u0, u1, u2⟩ := cells_now k7
 obtain ⟨u3, u4, u5⟩ := cells_now k8
 obtain ⟨u6, u7, u8⟩ := cells_now k9
 have HB9 := Lib.hid (HB4.out.trans (hD5.mono HB4.out.size))
 have HZ9 := Lib.hid (vec_step HZ4.out hD5)
 clear hG hne hD5 hk k7 k8 k9 K0 KT Kpa Kpb Kpc HRR HB4 HZ4 HR4 HT4 HP4 DX DY DZ
 go_wp2_with (with_reducible refine store_box rfl (.tmp 4) (.tmp 146) rfl rfl (w.heap.size + 1) lx ly lz ux uy uz rfl rfl _ HZ9.out rfl ?_)
 refine bodyPost_ret (results_cell_row rfl _ _ (w.heap.size + 1) 72 _ _ _ rfl (setRow_heap _ (w.heap.size + 1) _ _ _ _ (HZ9.out)) Tryz.underlying72 rfl box_size) rfl ?_
 exact ⟨rfl, below_setRow HB9.out (by omega) _⟩

theorem box_any (v : Value) (m : Msh) (w : World) (hm : IsMesh w v m) (ok : m.ok) (hl : m.ts.length + m.bs.length ≤ 9223372036854775807) (i : Int) (hi : In i) : Calls Tryz.prog 23 #[v, .int .i64 i] w (VTo (boxV (boxF m i)) w) := by
 have hm0 := hm
 obtain ⟨a0, c0, a1, c1, a2, c2, rfl, h0, h1, h2, l0, l1, l2⟩ := hm.open_
 have CT : Hid (∀ w', Below w.heap.size w w' → Calls Tryz.prog 22 #[mvals a0 m.ps.length c0 a1 m.ts.length c1 a2 m.bs.length c2] w' (VTo (.int .i64 ((m.ts.length : Int) + (m.bs.length : Int))) w')) := Lib.hid (fun w' hb => by
  have := count_any _ m w' (hm0.below hb) hl
  rwa [show ((m.ts.length + m.bs.length : Nat) : Int) = (m.ts.length : Int) + (m.bs.length : Int) from by simp] at this)
 unfold boxF
 by_cases hi0 : i < 0
 ·
  rw [if_pos (.inl hi0)]
  exact box_neg w _ _ _ _ _ _ _ _ _ i hi0
 by_cases hi1 : (m.ts.length : Int) + (m.bs.length : Int) ≤ i
 ·
  rw [if_pos (.inr hi1)]
  exact box_far w _ _ _ _ _ _ _ _ _ _ rfl CT i (by omega) hi1
 rw [if_neg (by omega)]
 by_cases hi2 : i < (m.ts.length : Int)
 ·
  rw [if_pos hi2]
  obtain ⟨j, rfl⟩ := Int.eq_ofNat_of_zero_le (by omega : 0 ≤ i)
  have hj : j < m.ts.length := by omega
  have e1 : m.ts.getD (j : Int).toNat v0 = m.ts[j] := by simp [hj]
  rw [e1]
  unfold triF
  obtain ⟨⟨x, y, z⟩, ht⟩ : ∃ t, t = m.ts[j] := ⟨_, rfl⟩
  rw [← ht]
  cases hh : hasF m.ps.length ⟨x, y, z⟩
  ·
   simp only [Bool.false_eq_true, if_false]
   exact box_hasnt w _ _ _ _ _ _ _ _ _ _ rfl CT m.ts h1 j hj x y z ht.symm l0 hh
  ·
   simp only [if_true]
   have hx := hh
   simp only [hasF, placeI, Bool.and_eq_true, decide_eq_true_eq] at hx
   obtain ⟨⟨⟨x0, x1⟩, y0, y1⟩, z0, z1⟩ := hx
   obtain ⟨x, rfl⟩ := Int.eq_ofNat_of_zero_le x0
   obtain ⟨y, rfl⟩ := Int.eq_ofNat_of_zero_le y0
   obtain ⟨z, rfl⟩ := Int.eq_ofNat_of_zero_le z0
   have hx : x < m.ps.length := by omega
   have hy : y < m.ps.length := by omega
   have hz : z < m.ps.length := by omega
   have := box_tri w _ _ _ _ _ _ _ _ _ _ rfl CT m.ts m.ps h1 h0 j hj x y z ht.symm hx hy hz l0 hh
   simpa [ptF, hx, hy, hz] using this
 ·
  rw [if_neg hi2]
  obtain ⟨j, hj⟩ : ∃ j : Nat, (j : Int) = i - (m.ts.length : Int) := ⟨(i - (m.ts.length : Int)).toNat, by omega⟩
  have hjb : j < m.bs.length := by omega
  have e1 : m.bs.getD (i - (m.ts.length : Int)).toNat ⟨v0, 0⟩ = m.bs[j] := by rw [← hj]; simp [hjb]
  rw [e1]
  have hok := ok.bs m.bs[j] (List.getElem_mem hjb)
  obtain ⟨⟨⟨x, y, z⟩, r⟩, hb⟩ : ∃ t, t = m.bs[j] := ⟨_, rfl⟩
  rw [← hb] at hok ⊢
  exact box_ball w _ _ _ _ _ _ _ _ _ _ rfl CT m.bs h2 j hjb x y z r hb.symm hok.1.1 hok.1.2.1 hok.1.2.2 hok.2 l1 i hi.2 (by omega)
end Go.Proofs.YtdaokkgenfpmhaaGreat.MeshP

/- The walk of ref12 low and high. -/
set_option linter.unusedVariables false
set_option linter.unusedSimpArgs false
namespace Go.Proofs.YtdaokkgenfpmhaaGreat.MeshQ
open Go.RowKit Go.Sort FixM Base Num FixW Qb Qt Qa VecW VecV VecU LightQ LightC MeshM Rec MeshA MeshB MeshC MeshD MeshE MeshP
def lowV (a b : V3) : V3 := ⟨if b.x < a.x then b.x else a.x, if b.y < a.y then b.y else a.y, if b.z < a.z then b.z else a.z⟩
def highV (a b : V3) : V3 := ⟨if b.x > a.x then b.x else a.x, if b.y > a.y then b.y else a.y, if b.z > a.z then b.z else a.z⟩
theorem al_size (w : World) (A : Obj) : (w.alloc A).heap.size = w.heap.size + 1 := by unfold World.alloc; exact Array.size_push _
theorem al3 (w : World) (A B C : Obj) : (((w.alloc A).alloc B).alloc C).heap[w.heap.size + 1 + 1]? = some C := by
 have := heap_alloc_new ((w.alloc A).alloc B) C
 rwa [al_size, al_size] at this
theorem al3_b (w : World) (A B C : Obj) : Below w.heap.size w (((w.alloc A).alloc B).alloc C) := (alloc2_below w A B).trans ((ext_alloc _ _).mono (alloc2_below w A B).size)

set_option maxRecDepth 100000 in
set_option maxHeartbeats 4000000 in
theorem low_any (a b : V3) (w : World) : Calls Tryz.prog 67 #[vecV a, vecV b] w (VTo (vecV (lowV a b)) w) := by
 obtain ⟨ax, ay, az⟩ := a
 obtain ⟨bx, by', bz⟩ := b
 unfold lowV
 dsimp only
 by_cases hx : bx < ax
 ·
  have dx : decide (bx < ax) = true := decide_eq_true hx
  rw [if_pos hx]
  clear hx
  by_cases hy : by' < ay
  ·
   have dy : decide (by' < ay) = true := decide_eq_true hy
   rw [if_pos hy]
   clear hy
   by_cases hz : bz < az
   ·
    have dz : decide (bz < az) = true := decide_eq_true hz
    rw [if_pos hz]
    clear hz
    go_enter Tryz.func67, Tryz.ntmps67
    go_wp2_with fail
    refine bodyPost_ret (results_cell_row rfl _ _ (w.heap.size + 1 + 1) 46 _ _ _ rfl (al3 _ _ _ _) Tryz.underlying46 rfl vec_size) rfl ?_
    exact ⟨rfl, al3_b _ _ _ _⟩
   ·
    have dz : decide (bz < az) = false := decide_eq_false hz
    rw [if_neg hz]
    clear hz
    go_enter Tryz.func67, Tryz.ntmps67
    go_wp2_with fail
    refine bodyPost_ret (results_cell_row rfl _ _ (w.heap.size + 1 + 1) 46 _ _ _ rfl (al3 _ _ _ _) Tryz.underlying46 rfl vec_size) rfl ?_
    exact ⟨rfl, al3_b _ _ _ _⟩
  ·
   have dy : decide (by' < ay) = false := decide_eq_false hy
   rw [if_neg hy]
   clear hy
   by_cases hz : bz < az
   ·
    have dz : decide (bz < az) = true := decide_eq_true hz
    rw [if_pos hz]
    clear hz
    go_enter Tryz.func67, Tryz.ntmps67
    go_wp2_with fail
    refine bodyPost_ret (results_cell_row rfl _ _ (w.heap.size + 1 + 1) 46 _ _ _ rfl (al3 _ _ _ _) Tryz.underlying46 rfl vec_size) rfl ?_
    exact ⟨rfl, al3_b _ _ _ _⟩
   ·
    have dz : decide (bz < az) = false := decide_eq_false hz
    rw [if_neg hz]
    clear hz
    go_enter Tryz.func67, Tryz.ntmps67
    go_wp2_with fail
    refine bodyPost_ret (results_cell_row rfl _ _ (w.heap.size + 1 + 1) 46 _ _ _ rfl (al3 _ _ _ _) Tryz.underlying46 rfl vec_size) rfl ?_
    exact ⟨rfl, al3_b _ _ _ _⟩
 ·
  have dx : decide (bx < ax) = false := decide_eq_false hx
  rw [if_neg hx]
  clear hx
  by_cases hy : by' < ay
  ·
   have dy : decide (by' < ay) = true := decide_eq_true hy
   rw [if_pos hy]
   clear hy
   by_cases hz : bz < az
   ·
    have dz : decide (bz < az) = true := decide_eq_true hz
    rw [if_pos hz]
    clear hz
    go_enter Tryz.func67, Tryz.ntmps67
    go_wp2_with fail
    refine bodyPost_ret (results_cell_row rfl _ _ (w.heap.size + 1 + 1) 46 _ _ _ rfl (al3 _ _ _ _) Tryz.underlying46 rfl vec_size) rfl ?_
    exact ⟨rfl, al3_b _ _ _ _⟩
   ·
    have dz : decide (bz < az) = false := decide_eq_false hz
    rw [if_neg hz]
    clear hz
    go_enter Tryz.func67, Tryz.ntmps67
    go_wp2_with fail
    refine bodyPost_ret (results_cell_row rfl _ _ (w.heap.size + 1 + 1) 46 _ _ _ rfl (al3 _ _ _ _) Tryz.underlying46 rfl vec_size) rfl ?_
    exact ⟨rfl, al3_b _ _ _ _⟩
  ·
   have dy : decide (by' < ay) = false := decide_eq_false hy
   rw [if_neg hy]
   clear hy
   by_cases hz : bz < az
   ·
    have dz : decide (bz < az) = true := decide_eq_true hz
    rw [if_pos hz]
    clear hz
    go_enter Tryz.func67, Tryz.ntmps67
    go_wp2_with fail
    refine bodyPost_ret (results_cell_row rfl _ _ (w.heap.size + 1 + 1) 46 _ _ _ rfl (al3 _ _ _ _) Tryz.underlying46 rfl vec_size) rfl ?_
    exact ⟨rfl, al3_b _ _ _ _⟩
   ·
    have dz : decide (bz < az) = false := decide_eq_false hz
    rw [if_neg hz]
    clear hz
    go_enter Tryz.func67, Tryz.ntmps67
    go_wp2_with fail
    refine bodyPost_ret (results_cell_row rfl _ _ (w.heap.size + 1 + 1) 46 _ _ _ rfl (al3 _ _ _ _) Tryz.underlying46 rfl vec_size) rfl ?_
    exact ⟨rfl, al3_b _ _ _ _⟩

set_option maxRecDepth 100000 in
set_option maxHeartbeats 4000000 in
theorem high_any (a b : V3) (w : World) : Calls Tryz.prog 68 #[vecV a, vecV b] w (VTo (vecV (highV a b)) w) := by
 obtain ⟨ax, ay, az⟩ := a
 obtain ⟨bx, by', bz⟩ := b
 unfold highV
 dsimp only
 by_cases hx : bx > ax
 ·
  have dx : decide (ax < bx) = true := decide_eq_true hx
  rw [if_pos hx]
  clear hx
  by_cases hy : by' > ay
  ·
   have dy : decide (ay < by') = true := decide_eq_true hy
   rw [if_pos hy]
   clear hy
   by_cases hz : bz > az
   ·
    have dz : decide (az < bz) = true := decide_eq_true hz
    rw [if_pos hz]
    clear hz
    go_enter Tryz.func68, Tryz.ntmps68
    go_wp2_with fail
    refine bodyPost_ret (results_cell_row rfl _ _ (w.heap.size + 1 + 1) 46 _ _ _ rfl (al3 _ _ _ _) Tryz.underlying46 rfl vec_size) rfl ?_
    exact ⟨rfl, al3_b _ _ _ _⟩
   ·
    have dz : decide (az < bz) = false := decide_eq_false hz
    rw [if_neg hz]
    clear hz
    go_enter Tryz.func68, Tryz.ntmps68
    go_wp2_with fail
    refine bodyPost_ret (results_cell_row rfl _ _ (w.heap.size + 1 + 1) 46 _ _ _ rfl (al3 _ _ _ _) Tryz.underlying46 rfl vec_size) rfl ?_
    exact ⟨rfl, al3_b _ _ _ _⟩
  ·
   have dy : decide (ay < by') = false := decide_eq_false hy
   rw [if_neg hy]
   clear hy
   by_cases hz : bz > az
   ·
    have dz : decide (az < bz) = true := decide_eq_true hz
    rw [if_pos hz]
    clear hz
    go_enter Tryz.func68, Tryz.ntmps68
    go_wp2_with fail
    refine bodyPost_ret (results_cell_row rfl _ _ (w.heap.size + 1 + 1) 46 _ _ _ rfl (al3 _ _ _ _) Tryz.underlying46 rfl vec_size) rfl ?_
    exact ⟨rfl, al3_b _ _ _ _⟩
   ·
    have dz : decide (az < bz) = false := decide_eq_false hz
    rw [if_neg hz]
    clear hz
    go_enter Tryz.func68, Tryz.ntmps68
    go_wp2_with fail
    refine bodyPost_ret (results_cell_row rfl _ _ (w.heap.size + 1 + 1) 46 _ _ _ rfl (al3 _ _ _ _) Tryz.underlying46 rfl vec_size) rfl ?_
    exact ⟨rfl, al3_b _ _ _ _⟩
 ·
  have dx : decide (ax < bx) = false := decide_eq_false hx
  rw [if_neg hx]
  clear hx
  by_cases hy : by' > ay
  ·
   have dy : decide (ay < by') = true := decide_eq_true hy
   rw [if_pos hy]
   clear hy
   by_cases hz : bz > az
   ·
    have dz : decide (az < bz) = true := decide_eq_true hz
    rw [if_pos hz]
    clear hz
    go_enter Tryz.func68, Tryz.ntmps68
    go_wp2_with fail
    refine bodyPost_ret (results_cell_row rfl _ _ (w.heap.size + 1 + 1) 46 _ _ _ rfl (al3 _ _ _ _) Tryz.underlying46 rfl vec_size) rfl ?_
    exact ⟨rfl, al3_b _ _ _ _⟩
   ·
    have dz : decide (az < bz) = false := decide_eq_false hz
    rw [if_neg hz]
    clear hz
    go_enter Tryz.func68, Tryz.ntmps68
    go_wp2_with fail
    refine bodyPost_ret (results_cell_row rfl _ _ (w.heap.size + 1 + 1) 46 _ _ _ rfl (al3 _ _ _ _) Tryz.underlying46 rfl vec_size) rfl ?_
    exact ⟨rfl, al3_b _ _ _ _⟩
  ·
   have dy : decide (ay < by') = false := decide_eq_false hy
   rw [if_neg hy]
   clear hy
   by_cases hz : bz > az
   ·
    have dz : decide (az < bz) = true := decide_eq_true hz
    rw [if_pos hz]
    clear hz
    go_enter Tryz.func68, Tryz.ntmps68
    go_wp2_with fail
    refine bodyPost_ret (results_cell_row rfl _ _ (w.heap.size + 1 + 1) 46 _ _ _ rfl (al3 _ _ _ _) Tryz.underlying46 rfl vec_size) rfl ?_
    exact ⟨rfl, al3_b _ _ _ _⟩
   ·
    have dz : decide (az < bz) = false := decide_eq_false hz
    rw [if_neg hz]
    clear hz
    go_enter Tryz.func68, Tryz.ntmps68
    go_wp2_with fail
    refine bodyPost_ret (results_cell_row rfl _ _ (w.heap.size + 1 + 1) 46 _ _ _ rfl (al3 _ _ _ _) Tryz.underlying46 rfl vec_size) rfl ?_
    exact ⟨rfl, al3_b _ _ _ _⟩
end Go.Proofs.YtdaokkgenfpmhaaGreat.MeshQ

/- The walk of ref12 Box. -/
set_option linter.unusedVariables false
set_option linter.unusedSimpArgs false
namespace Go.Proofs.YtdaokkgenfpmhaaGreat.MeshR
open Go.RowKit Go.Sort FixM Base Num FixW Qb Qt Qa Qf VecW VecV VecU LightQ LightC MeshM Rec MeshA MeshB MeshC MeshD MeshE MeshP MeshQ
theorem ref_sub (a b : Int) (ha1 : -9223372036854775808 ≤ a) (ha2 : a ≤ 9223372036854775807) (hb1 : -9223372036854775808 ≤ b) (hb2 : b ≤ 9223372036854775807) (w : World) : Calls Tryz.prog 69 #[.int .i64 a, .int .i64 b] w (fun e w' => e = .returned (.int .i64 (subF a b)) ∧ w = w') := rsub_any a b ha1 ha2 hb1 hb2 w
theorem ref_add (a b : Int) (ha1 : -9223372036854775808 ≤ a) (ha2 : a ≤ 9223372036854775807) (hb1 : -9223372036854775808 ≤ b) (hb2 : b ≤ 9223372036854775807) (w : World) : Calls Tryz.prog 70 #[.int .i64 a, .int .i64 b] w (fun e w' => e = .returned (.int .i64 (addF a b)) ∧ w = w') := radd_any a b ha1 ha2 hb1 hb2 w
theorem tri_of (a b c : V3) : triB a b c = ⟨lowV a (lowV b c), highV a (highV b c)⟩ := by
 unfold triB lowV highV min3 max3
 simp only [Bx.mk.injEq, V3.mk.injEq]
 refine ⟨⟨?_, ?_, ?_⟩, ?_, ?_, ?_⟩ <;> (repeat' split) <;> omega

set_option maxRecDepth 100000 in
set_option maxHeartbeats 4000000 in
theorem rbox_neg (w : World) (a0 : Option Addr) (n0 c0 : Nat) (a1 : Option Addr) (n1 c1 : Nat) (a2 : Option Addr) (n2 c2 : Nat) (i : Int) (h : i < 0) : Calls Tryz.prog 46 #[mvals a0 n0 c0 a1 n1 c1 a2 n2 c2, .int .i64 i] w (VTo (boxV zeroB) w) := by
 have d0 : decide (i < 0) = true := decide_eq_true h
 clear h
 obtain ⟨W, hW⟩ : ∃ W, W = W2 w a0 n0 c0 a1 n1 c1 a2 n2 c2 := ⟨_, rfl⟩
 have hB : Below w.heap.size w W := by rw [hW]; exact alloc2_below _ _ _
 have hR : W.heap[w.heap.size]? = some (.cells #[.slice a0 n0 c0, .slice a1 n1 c1, .slice a2 n2 c2] 31) := by rw [hW]; exact alloc2_0 _ _ _
 have hZ : W.heap[w.heap.size + 1]? = some (.cells #[.int .i64 0, .int .i64 0, .int .i64 0, .int .i64 0, .int .i64 0, .int .i64 0] 72) := by rw [hW]; exact alloc2_1 _ _ _
 have k0 := cell_row hR 0 (.slice a0 n0 c0) rfl
 have k1 := cell_row hR 1 (.slice a1 n1 c1) rfl
 have k2 := cell_row hR 2 (.slice a2 n2 c2) rfl
 have HR := Lib.hid hR
 have HB := Lib.hid hB
 have HZ := Lib.hid hZ
 have HWW := Lib.hid hW
 rw [hW] at k0 k1 k2
 clear hR hB hZ hW
 unfold mvals W2 at *
 clear HR HB HZ HWW
 go_enter Tryz.func46, Tryz.ntmps46
 go_wp2_with (with_reducible refine store_box rfl (.tmp 4) (.tmp 20) rfl rfl (w.heap.size + 1) 0 0 0 0 0 0 rfl rfl _ (alloc2_1 _ _ _) rfl ?_)
 refine bodyPost_ret (results_cell_row rfl _ _ (w.heap.size + 1) 72 _ _ _ rfl (setRow_heap _ (w.heap.size + 1) _ _ _ _ (alloc2_1 _ _ _)) Tryz.underlying72 rfl box_size) rfl ?_
 exact ⟨rfl, below_setRow (alloc2_below _ _ _) (by omega) _⟩

set_option maxRecDepth 100000 in
set_option maxHeartbeats 4000000 in
theorem rbox_far (w : World) (a0 : Option Addr) (n0 c0 : Nat) (a1 : Option Addr) (n1 c1 : Nat) (a2 : Option Addr) (n2 c2 : Nat) (N : Int) (hN : N = (n1 : Int) + (n2 : Int)) (CT : Hid (∀ w', Below w.heap.size w w' → Calls Tryz.prog 26 #[mvals a0 n0 c0 a1 n1 c1 a2 n2 c2] w' (VTo (.int .i64 N) w'))) (i : Int) (h0 : 0 ≤ i) (h : N ≤ i) : Calls Tryz.prog 46 #[mvals a0 n0 c0 a1 n1 c1 a2 n2 c2, .int .i64 i] w (VTo (boxV zeroB) w) := by
 have d0 : decide (i < 0) = false := decide_eq_false (by omega)
 have d1 : decide (N ≤ i) = true := decide_eq_true h
 clear h h0 hN
 obtain ⟨W, hW⟩ : ∃ W, W = W2 w a0 n0 c0 a1 n1 c1 a2 n2 c2 := ⟨_, rfl⟩
 have hB : Below w.heap.size w W := by rw [hW]; exact alloc2_below _ _ _
 have hR : W.heap[w.heap.size]? = some (.cells #[.slice a0 n0 c0, .slice a1 n1 c1, .slice a2 n2 c2] 31) := by rw [hW]; exact alloc2_0 _ _ _
 have hZ : W.heap[w.heap.size + 1]? = some (.cells #[.int .i64 0, .int .i64 0, .int .i64 0, .int .i64 0, .int .i64 0, .int .i64 0] 72) := by rw [hW]; exact alloc2_1 _ _ _
 have k0 := cell_row hR 0 (.slice a0 n0 c0) rfl
 have k1 := cell_row hR 1 (.slice a1 n1 c1) rfl
 have k2 := cell_row hR 2 (.slice a2 n2 c2) rfl
 have HR := Lib.hid hR
 have HB := Lib.hid hB
 have HZ := Lib.hid hZ
 have HWW := Lib.hid hW
 rw [hW] at k0 k1 k2
 clear hR hB hZ hW
 unfold mvals W2 at *
 go_enter Tryz.func46, Tryz.ntmps46
 go_wp2_with fail
 rw [← HWW.out]
 clear k0 k1 k2
 refine (CT.out _ HB.out).mono ?_
 rintro e w1 ⟨rfl, hb1⟩
 have HB1 := Lib.hid (HB.out.trans (hb1.mono HB.out.size))
 have HZ1 := Lib.hid (vec_step HZ.out hb1)
 clear hb1
 go_wp2_with (with_reducible refine store_box rfl (.tmp 4) (.tmp 20) rfl rfl (w.heap.size + 1) 0 0 0 0 0 0 rfl rfl _ HZ1.out rfl ?_)
 refine bodyPost_ret (results_cell_row rfl _ _ (w.heap.size + 1) 72 _ _ _ rfl (setRow_heap _ (w.heap.size + 1) _ _ _ _ (HZ1.out)) Tryz.underlying72 rfl box_size) rfl ?_
 exact ⟨rfl, below_setRow HB1.out (by omega) _⟩

set_option maxRecDepth 100000 in
set_option maxHeartbeats 4000000 in
theorem rbox_hasnt (w : World) (a0 : Option Addr) (n0 c0 : Nat) (a1 : Option Addr) (n1 c1 : Nat) (a2 : Option Addr) (n2 c2 : Nat) (N : Int) (hN : N = (n1 : Int) + (n2 : Int)) (CT : Hid (∀ w', Below w.heap.size w w' → Calls Tryz.prog 26 #[mvals a0 n0 c0 a1 n1 c1 a2 n2 c2] w' (VTo (.int .i64 N) w'))) (ts : List V3) (hts : Recs 3 enc3 w (.slice a1 n1 c1) ts) (j : Nat) (hj : j < ts.length) (x y z : Int) (ht : ts[j] = ⟨x, y, z⟩) (l0 : n0 ≤ 9223372036854775807) (hh : hasF n0 ⟨x, y, z⟩ = false) : Calls Tryz.prog 46 #[mvals a0 n0 c0 a1 n1 c1 a2 n2 c2, .int .i64 (j : Int)] w (VTo (boxV zeroB) w) := by
 have hjn : j < n1 := by rw [hts.fits]; exact hj
 have d0 : decide ((j : Int) < 0) = false := decide_eq_false (by omega)
 have d1 : decide (N ≤ (j : Int)) = false := decide_eq_false (by omega)
 have d3 : decide ((j : Int) < (n1 : Int)) = true := decide_eq_true (by omega)
 have d4 : decide (j < n1) = true := decide_eq_true hjn
 have CH := Lib.hid (fun w => (hh ▸ there_any a0 n0 c0 (.slice a1 n1 c1) (.slice a2 n2 c2) l0 ⟨x, y, z⟩ w : Calls Tryz.prog 45 #[mvals a0 n0 c0 a1 n1 c1 a2 n2 c2, .agg #[.int .i64 x, .int .i64 y, .int .i64 z]] w (VTo (.bool false) w)))
 have HTS := Lib.hid hts
 have HJ := Lib.hid ht
 clear hN hts ht hh l0
 obtain ⟨W, hW⟩ : ∃ W, W = W2 w a0 n0 c0 a1 n1 c1 a2 n2 c2 := ⟨_, rfl⟩
 have hB : Below w.heap.size w W := by rw [hW]; exact alloc2_below _ _ _
 have hR : W.heap[w.heap.size]? = some (.cells #[.slice a0 n0 c0, .slice a1 n1 c1, .slice a2 n2 c2] 31) := by rw [hW]; exact alloc2_0 _ _ _
 have hZ : W.heap[w.heap.size + 1]? = some (.cells #[.int .i64 0, .int .i64 0, .int .i64 0, .int .i64 0, .int .i64 0, .int .i64 0] 72) := by rw [hW]; exact alloc2_1 _ _ _
 have k0 := cell_row hR 0 (.slice a0 n0 c0) rfl
 have k1 := cell_row hR 1 (.slice a1 n1 c1) rfl
 have k2 := cell_row hR 2 (.slice a2 n2 c2) rfl
 have HR := Lib.hid hR
 have HB := Lib.hid hB
 have HZ := Lib.hid hZ
 have HWW := Lib.hid hW
 rw [hW] at k0 k1 k2
 clear hR hB hZ hW
 unfold mvals W2 at *
 go_enter Tryz.func46, Tryz.ntmps46
 go_wp2_with fail
 rw [← HWW.out]
 clear k0 k1 k2
 refine (CT.out _ HB.out).mono ?_
 rintro e w1 ⟨rfl, hb1⟩
 have HB1 := Lib.hid (HB.out.trans (hb1.mono HB.out.size))
 have HZ1 := Lib.hid (vec_step HZ.out hb1)
 have HR1 := Lib.hid (vec_step HR.out hb1)
 have HW1 := Lib.hid (HB.out.trans (hb1.mono HB.out.size))
 clear hb1 CT HB HZ HR HWW
 have k0 := cell_row HR1.out 0 (.slice a0 n0 c0) rfl
 have k1 := cell_row HR1.out 1 (.slice a1 n1 c1) rfl
 have k2 := cell_row HR1.out 2 (.slice a2 n2 c2) rfl
 obtain ⟨b, off, e, hbl, p0, p1, p2⟩ := at3 (HTS.out.below HW1.out (Nat.le_refl _)) j hj
 subst e
 rw [HJ.out] at p0 p1 p2
 clear HTS HJ hbl
 dsimp only at p0 p1 p2
 go_upto_region 5 with (with_reducible refine store_tri rfl (.tmp 5) (.tmp 30) rfl rfl w1.heap.size x y z rfl rfl _ (heap_alloc_new _ _) rfl ?_)
 clear k0 k1 k2 p0 p1 p2
 have H6 := Lib.hid (put4_row w1 52 #[.int .i64 0, .int .i64 0, .int .i64 0] #[.int .i64 x, .int .i64 y, .int .i64 z])
 have HB6 := Lib.hid (put_ext w1 (.cells #[.int .i64 0, .int .i64 0, .int .i64 0] 52) #[.int .i64 x, .int .i64 y, .int .i64 z])
 have HB2 := Lib.hid (HB1.out.trans (HB6.out.mono HB1.out.size))
 have HZ2 := Lib.hid (vec_step HZ1.out HB6.out)
 have HR2 := Lib.hid (vec_step HR1.out HB6.out)
 clear HB1 HB6 HR1 HZ1 HW1
 obtain ⟨W3, hW3⟩ : ∃ W, W = (w1.alloc (.cells #[.int .i64 0, .int .i64 0, .int .i64 0] 52)).setRow w1.heap.size #[.int .i64 x, .int .i64 y, .int .i64 z] := ⟨_, rfl⟩
 rw [← hW3] at H6 HB2 HZ2 HR2 ⊢
 clear hW3
 generalize w1.heap.size = g6 at H6 ⊢
 obtain ⟨c0', c1', c2'⟩ := cells_now H6.out
 have k0 := cell_row HR2.out 0 (.slice a0 n0 c0) rfl
 have k1 := cell_row HR2.out 1 (.slice (some ⟨b, off, none⟩) n1 c1) rfl
 have k2 := cell_row HR2.out 2 (.slice a2 n2 c2) rfl
 go_wp2_with fail
 refine (CH.out _).mono ?_
 rintro e w4 ⟨rfl, hb4⟩
 have HB4 := Lib.hid (HB2.out.trans (hb4.mono HB2.out.size))
 have HZ4 := Lib.hid (vec_step HZ2.out hb4)
 clear hb4 c0' c1' c2' k0 k1 k2 HB2 HZ2
 go_wp2_with (with_reducible refine store_box rfl (.tmp 4) (.tmp 35) rfl rfl (w.heap.size + 1) 0 0 0 0 0 0 rfl rfl _ HZ4.out rfl ?_)
 refine bodyPost_ret (results_cell_row rfl _ _ (w.heap.size + 1) 72 _ _ _ rfl (setRow_heap _ (w.heap.size + 1) _ _ _ _ (HZ4.out)) Tryz.underlying72 rfl box_size) rfl ?_
 exact ⟨rfl, below_setRow HB4.out (by omega) _⟩

set_option maxRecDepth 100000 in
set_option maxHeartbeats 4000000 in
theorem rbox_tri (w : World) (a0 : Option Addr) (n0 c0 : Nat) (a1 : Option Addr) (n1 c1 : Nat) (a2 : Option Addr) (n2 c2 : Nat) (N : Int) (hN : N = (n1 : Int) + (n2 : Int)) (CT : Hid (∀ w', Below w.heap.size w w' → Calls Tryz.prog 26 #[mvals a0 n0 c0 a1 n1 c1 a2 n2 c2] w' (VTo (.int .i64 N) w'))) (ts ps : List V3) (hts : Recs 3 enc3 w (.slice a1 n1 c1) ts) (hps : Recs 3 enc3 w (.slice a0 n0 c0) ps) (j : Nat) (hj : j < ts.length) (x y z : Nat) (ht : ts[j] = ⟨(x : Int), (y : Int), (z : Int)⟩) (hx : x < ps.length) (hy : y < ps.length) (hz : z < ps.length) (l0 : n0 ≤ 9223372036854775807) (hh : hasF n0 ⟨(x : Int), (y : Int), (z : Int)⟩ = true) : Calls Tryz.prog 46 #[mvals a0 n0 c0 a1 n1 c1 a2 n2 c2, .int .i64 (j : Int)] w (VTo (boxV (triB ps[x] ps[y] ps[z])) w) := by
 have hjn : j < n1 := by rw [hts.fits]; exact hj
 have hxn : x < n0 := by rw [hps.fits]; exact hx
 have hyn : y < n0 := by rw [hps.fits]; exact hy
 have hzn : z < n0 := by rw [hps.fits]; exact hz
 have d0 : decide ((j : Int) < 0) = false := decide_eq_false (by omega)
 have d1 : decide (N ≤ (j : Int)) = false := decide_eq_false (by omega)
 have d3 : decide ((j : Int) < (n1 : Int)) = true := decide_eq_true (by omega)
 have d4 : decide (j < n1) = true := decide_eq_true hjn
 have CH := Lib.hid (fun w => (hh ▸ there_any a0 n0 c0 (.slice a1 n1 c1) (.slice a2 n2 c2) l0 ⟨(x : Int), (y : Int), (z : Int)⟩ w : Calls Tryz.prog 45 #[mvals a0 n0 c0 a1 n1 c1 a2 n2 c2, .agg #[.int .i64 (x : Int), .int .i64 (y : Int), .int .i64 (z : Int)]] w (VTo (.bool true) w)))
 have HTS := Lib.hid hts
 have HPS := Lib.hid hps
 have HJ := Lib.hid ht
 have DX := Lib.hid hxn
 have DY := Lib.hid hyn
 have DZ := Lib.hid hzn
 clear hN hts hps ht hh l0 hxn hyn hzn
 obtain ⟨⟨pax, pay, paz⟩, hppa⟩ : ∃ p, p = ps[x] := ⟨_, rfl⟩
 rw [← hppa]
 have HPpa := Lib.hid hppa
 clear hppa
 obtain ⟨⟨pbx, pby, pbz⟩, hppb⟩ : ∃ p, p = ps[y] := ⟨_, rfl⟩
 rw [← hppb]
 have HPpb := Lib.hid hppb
 clear hppb
 obtain ⟨⟨pcx, pcy, pcz⟩, hppc⟩ : ∃ p, p = ps[z] := ⟨_, rfl⟩
 rw [← hppc]
 have HPpc := Lib.hid hppc
 clear hppc
 rw [tri_of]
 obtain ⟨⟨l1x, l1y, l1z⟩, hL1⟩ : ∃ L, L = lowV ⟨pbx, pby, pbz⟩ ⟨pcx, pcy, pcz⟩ := ⟨_, rfl⟩
 rw [← hL1]
 have CL1 : Hid (∀ w2, Calls Tryz.prog 67 #[.agg #[.int .i64 pbx, .int .i64 pby, .int .i64 pbz], .agg #[.int .i64 pcx, .int .i64 pcy, .int .i64 pcz]] w2 (VTo (.agg #[.int .i64 l1x, .int .i64 l1y, .int .i64 l1z]) w2)) := Lib.hid (fun w2 => by have := low_any ⟨pbx, pby, pbz⟩ ⟨pcx, pcy, pcz⟩ w2; rw [← hL1] at this; exact this)
 clear hL1
 obtain ⟨⟨l2x, l2y, l2z⟩, hL2⟩ : ∃ L, L = lowV ⟨pax, pay, paz⟩ ⟨l1x, l1y, l1z⟩ := ⟨_, rfl⟩
 rw [← hL2]
 have CL2 : Hid (∀ w2, Calls Tryz.prog 67 #[.agg #[.int .i64 pax, .int .i64 pay, .int .i64 paz], .agg #[.int .i64 l1x, .int .i64 l1y, .int .i64 l1z]] w2 (VTo (.agg #[.int .i64 l2x, .int .i64 l2y, .int .i64 l2z]) w2)) := Lib.hid (fun w2 => by have := low_any ⟨pax, pay, paz⟩ ⟨l1x, l1y, l1z⟩ w2; rw [← hL2] at this; exact this)
 clear hL2
 obtain ⟨⟨u1x, u1y, u1z⟩, hU1⟩ : ∃ L, L = highV ⟨pbx, pby, pbz⟩ ⟨pcx, pcy, pcz⟩ := ⟨_, rfl⟩
 rw [← hU1]
 have CU1 : Hid (∀ w2, Calls Tryz.prog 68 #[.agg #[.int .i64 pbx, .int .i64 pby, .int .i64 pbz], .agg #[.int .i64 pcx, .int .i64 pcy, .int .i64 pcz]] w2 (VTo (.agg #[.int .i64 u1x, .int .i64 u1y, .int .i64 u1z]) w2)) := Lib.hid (fun w2 => by have := high_any ⟨pbx, pby, pbz⟩ ⟨pcx, pcy, pcz⟩ w2; rw [← hU1] at this; exact this)
 clear hU1
 obtain ⟨⟨u2x, u2y, u2z⟩, hU2⟩ : ∃ L, L = highV ⟨pax, pay, paz⟩ ⟨u1x, u1y, u1z⟩ := ⟨_, rfl⟩
 rw [← hU2]
 have CU2 : Hid (∀ w2, Calls Tryz.prog 68 #[.agg #[.int .i64 pax, .int .i64 pay, .int .i64 paz], .agg #[.int .i64 u1x, .int .i64 u1y, .int .i64 u1z]] w2 (VTo (.agg #[.int .i64 u2x, .int .i64 u2y, .int .i64 u2z]) w2)) := Lib.hid (fun w2 => by have := high_any ⟨pax, pay, paz⟩ ⟨u1x, u1y, u1z⟩ w2; rw [← hU2] at this; exact this)
 clear hU2
 obtain ⟨W, hW⟩ : ∃ W, W = W2 w a0 n0 c0 a1 n1 c1 a2 n2 c2 := ⟨_, rfl⟩
 have hB : Below w.heap.size w W := by rw [hW]; exact alloc2_below _ _ _
 have hR : W.heap[w.heap.size]? = some (.cells #[.slice a0 n0 c0, .slice a1 n1 c1, .slice a2 n2 c2] 31) := by rw [hW]; exact alloc2_0 _ _ _
 have hZ : W.heap[w.heap.size + 1]? = some (.cells #[.int .i64 0, .int .i64 0, .int .i64 0, .int .i64 0, .int .i64 0, .int .i64 0] 72) := by rw [hW]; exact alloc2_1 _ _ _
 have k0 := cell_row hR 0 (.slice a0 n0 c0) rfl
 have k1 := cell_row hR 1 (.slice a1 n1 c1) rfl
 have k2 := cell_row hR 2 (.slice a2 n2 c2) rfl
 have HR := Lib.hid hR
 have HB := Lib.hid hB
 have HZ := Lib.hid hZ
 have HWW := Lib.hid hW
 rw [hW] at k0 k1 k2
 clear hR hB hZ hW
 unfold mvals W2 at *
 go_enter Tryz.func46, Tryz.ntmps46
 go_wp2_with fail
 rw [← HWW.out]
 clear k0 k1 k2
 refine (CT.out _ HB.out).mono ?_
 rintro e w1 ⟨rfl, hb1⟩
 have HB1 := Lib.hid (HB.out.trans (hb1.mono HB.out.size))
 have HZ1 := Lib.hid (vec_step HZ.out hb1)
 have HR1 := Lib.hid (vec_step HR.out hb1)
 have HW1 := Lib.hid (HB.out.trans (hb1.mono HB.out.size))
 clear hb1 CT HB HZ HR HWW
 have k0 := cell_row HR1.out 0 (.slice a0 n0 c0) rfl
 have k1 := cell_row HR1.out 1 (.slice a1 n1 c1) rfl
 have k2 := cell_row HR1.out 2 (.slice a2 n2 c2) rfl
 obtain ⟨b, off, e, hbl, p0, p1, p2⟩ := at3 (HTS.out.below HW1.out (Nat.le_refl _)) j hj
 subst e
 rw [HJ.out] at p0 p1 p2
 clear HTS HJ hbl
 dsimp only at p0 p1 p2
 go_upto_region 5 with (with_reducible refine store_tri rfl (.tmp 5) (.tmp 30) rfl rfl w1.heap.size x y z rfl rfl _ (heap_alloc_new _ _) rfl ?_)
 clear k0 k1 k2 p0 p1 p2
 have H6 := Lib.hid (put4_row w1 52 #[.int .i64 0, .int .i64 0, .int .i64 0] #[.int .i64 x, .int .i64 y, .int .i64 z])
 have HB6 := Lib.hid (put_ext w1 (.cells #[.int .i64 0, .int .i64 0, .int .i64 0] 52) #[.int .i64 x, .int .i64 y, .int .i64 z])
 have HB2 := Lib.hid (HB1.out.trans (HB6.out.mono HB1.out.size))
 have HZ2 := Lib.hid (vec_step HZ1.out HB6.out)
 have HR2 := Lib.hid (vec_step HR1.out HB6.out)
 clear HB1 HB6 HR1 HZ1 HW1
 obtain ⟨W3, hW3⟩ : ∃ W, W = (w1.alloc (.cells #[.int .i64 0, .int .i64 0, .int .i64 0] 52)).setRow w1.heap.size #[.int .i64 x, .int .i64 y, .int .i64 z] := ⟨_, rfl⟩
 rw [← hW3] at H6 HB2 HZ2 HR2 ⊢
 clear hW3
 generalize w1.heap.size = g6 at H6 ⊢
 obtain ⟨c0', c1', c2'⟩ := cells_now H6.out
 have k0 := cell_row HR2.out 0 (.slice a0 n0 c0) rfl
 have k1 := cell_row HR2.out 1 (.slice (some ⟨b, off, none⟩) n1 c1) rfl
 have k2 := cell_row HR2.out 2 (.slice a2 n2 c2) rfl
 go_wp2_with fail
 refine (CH.out _).mono ?_
 rintro e w4 ⟨rfl, hb4⟩
 have HB4 := Lib.hid (HB2.out.trans (hb4.mono HB2.out.size))
 have HZ4 := Lib.hid (vec_step HZ2.out hb4)
 have HR4 := Lib.hid (vec_step HR2.out hb4)
 have HT4 := Lib.hid (vec_step H6.out hb4)
 have HP4 := Lib.hid (HPS.out.below HB4.out (Nat.le_refl _))
 clear hb4 c0' c1' c2' k0 k1 k2 HB2 HZ2 HR2 H6 HPS
 go_upto_region 7 with (fail)
 have K0 := Lib.hid (fun W9 (hb : Below w4.heap.size w4 W9) => cell_all (vec_step HR4.out hb) 0 _ rfl)
 have KT := Lib.hid (fun W9 (hb : Below w4.heap.size w4 W9) => cells3 (vec_step HT4.out hb))
 have hps4 := HP4.out
 obtain ⟨b4, off4, e4, hb4', _, _, _⟩ := at3 hps4 x hx
 subst e4
 have HPS4 := Lib.hid hps4
 clear hps4 hb4'
 have Kpa : Hid (∀ W9, Below w4.heap.size w4 W9 → (∀ d os, (grow (redrawn W9 d) os).cell? ⟨b4, off4 + x * 3, none⟩ = some (.int .i64 pax)) ∧ (∀ d os, (grow (redrawn W9 d) os).cell? ⟨b4, off4 + x * 3 + 1, none⟩ = some (.int .i64 pay)) ∧ (∀ d os, (grow (redrawn W9 d) os).cell? ⟨b4, off4 + x * 3 + 2, none⟩ = some (.int .i64 paz))) := by
  refine Lib.hid (fun W9 hb => ?_)
  obtain ⟨b5, off5, e5, _, q0, q1, q2⟩ := at3 (HPS4.out.below hb (Nat.le_refl _)) x hx
  simp only [Option.some.injEq, Addr.mk.injEq, and_true] at e5
  obtain ⟨rfl, rfl⟩ := e5
  rw [← HPpa.out] at q0 q1 q2
  exact ⟨fun d os => cell_regrown q0 d os, fun d os => cell_regrown q1 d os, fun d os => cell_regrown q2 d os⟩
 have Kpb : Hid (∀ W9, Below w4.heap.size w4 W9 → (∀ d os, (grow (redrawn W9 d) os).cell? ⟨b4, off4 + y * 3, none⟩ = some (.int .i64 pbx)) ∧ (∀ d os, (grow (redrawn W9 d) os).cell? ⟨b4, off4 + y * 3 + 1, none⟩ = some (.int .i64 pby)) ∧ (∀ d os, (grow (redrawn W9 d) os).cell? ⟨b4, off4 + y * 3 + 2, none⟩ = some (.int .i64 pbz))) := by
  refine Lib.hid (fun W9 hb => ?_)
  obtain ⟨b5, off5, e5, _, q0, q1, q2⟩ := at3 (HPS4.out.below hb (Nat.le_refl _)) y hy
  simp only [Option.some.injEq, Addr.mk.injEq, and_true] at e5
  obtain ⟨rfl, rfl⟩ := e5
  rw [← HPpb.out] at q0 q1 q2
  exact ⟨fun d os => cell_regrown q0 d os, fun d os => cell_regrown q1 d os, fun d os => cell_regrown q2 d os⟩
 have Kpc : Hid (∀ W9, Below w4.heap.size w4 W9 → (∀ d os, (grow (redrawn W9 d) os).cell? ⟨b4, off4 + z * 3, none⟩ = some (.int .i64 pcx)) ∧ (∀ d os, (grow (redrawn W9 d) os).cell? ⟨b4, off4 + z * 3 + 1, none⟩ = some (.int .i64 pcy)) ∧ (∀ d os, (grow (redrawn W9 d) os).cell? ⟨b4, off4 + z * 3 + 2, none⟩ = some (.int .i64 pcz))) := by
  refine Lib.hid (fun W9 hb => ?_)
  obtain ⟨b5, off5, e5, _, q0, q1, q2⟩ := at3 (HPS4.out.below hb (Nat.le_refl _)) z hz
  simp only [Option.some.injEq, Addr.mk.injEq, and_true] at e5
  obtain ⟨rfl, rfl⟩ := e5
  rw [← HPpc.out] at q0 q1 q2
  exact ⟨fun d os => cell_regrown q0 d os, fun d os => cell_regrown q1 d os, fun d os => cell_regrown q2 d os⟩
 clear HPS4 HPpa HPpb HPpc
 have HRR := Lib.hid (HR4.out)
 refine wp_region_free 115 [0, 1, 2, 3, 4, 5, 6, 7, 8, 9, 10, 11, 12, 13, 14, 15, 16, 17] [⟨18, 6, #[.int .i64 0, .int .i64 0, .int .i64 0], 46, 21, 41, #[.int .i64 pax, .int .i64 pay, .int .i64 paz]⟩, ⟨19, 7, #[.int .i64 0, .int .i64 0, .int .i64 0], 46, 22, 47, #[.int .i64 pbx, .int .i64 pby, .int .i64 pbz]⟩, ⟨20, 8, #[.int .i64 0, .int .i64 0, .int .i64 0], 46, 23, 53, #[.int .i64 pcx, .int .i64 pcy, .int .i64 pcz]⟩] (by kernel_rfl) rfl (by kernel_rfl) (by
  intro x hx
  simp only [List.mem_cons, List.not_mem_nil, or_false] at hx
  rcases hx with rfl | rfl | rfl
  ·
   exact ⟨⟨_, rfl, ⟨⟨_, rfl, alloc_vec⟩, rfl, rfl⟩⟩, _, rfl, ⟨⟨_, rfl, vec_size⟩, rfl, rfl, rfl, row_one _ _ _⟩⟩
  ·
   exact ⟨⟨_, rfl, ⟨⟨_, rfl, alloc_vec⟩, rfl, rfl⟩⟩, _, rfl, ⟨⟨_, rfl, vec_size⟩, rfl, rfl, rfl, row_one _ _ _⟩⟩
  ·
   exact ⟨⟨_, rfl, ⟨⟨_, rfl, alloc_vec⟩, rfl, rfl⟩⟩, _, rfl, ⟨⟨_, rfl, vec_size⟩, rfl, rfl, rfl, row_one _ _ _⟩⟩) ?_
 refine Walk.step (A := ?Ap0) (o := ?op0) ?ep0 ?wp0 36 ?dp0 (by simp) ?hp0 ?np0
 case ep0 => simp only [List.getElem?_toArray, List.getElem?_cons_succ, List.getElem?_cons_zero]; exact rfl
 case wp0 => exact rfl
 case dp0 => exact rfl
 case hp0 =>
  intro W9 hW9
  go_big_quiet_op
  exact rfl
 refine Walk.step (A := ?Ap1) (o := ?op1) ?ep1 ?wp1 37 ?dp1 (by simp) ?hp1 ?np1
 case ep1 => simp only [List.getElem?_toArray, List.getElem?_cons_succ, List.getElem?_cons_zero]; exact rfl
 case wp1 => exact rfl
 case dp1 => exact rfl
 case hp1 =>
  intro W9 hW9
  have z0 := K0.out W9 hW9
  go_big_quiet_op
  exact rfl
 refine Walk.step (A := ?Ap2) (o := ?op2) ?ep2 ?wp2 38 ?dp2 (by simp) ?hp2 ?np2
 case ep2 => simp only [List.getElem?_toArray, List.getElem?_cons_succ, List.getElem?_cons_zero]; exact rfl
 case wp2 => exact rfl
 case dp2 => exact rfl
 case hp2 =>
  intro W9 hW9
  go_big_quiet_op
  exact rfl
 refine Walk.step (A := ?Ap3) (o := ?op3) ?ep3 ?wp3 39 ?dp3 (by simp) ?hp3 ?np3
 case ep3 => simp only [List.getElem?_toArray, List.getElem?_cons_succ, List.getElem?_cons_zero]; exact rfl
 case wp3 => exact rfl
 case dp3 => exact rfl
 case hp3 =>
  intro W9 hW9
  obtain ⟨z0, z1, z2⟩ := KT.out W9 hW9
  go_big_quiet_op
  exact rfl
 refine Walk.step (A := ?Ap4) (o := ?op4) ?ep4 ?wp4 40 ?dp4 (by simp) ?hp4 ?np4
 case ep4 => simp only [List.getElem?_toArray, List.getElem?_cons_succ, List.getElem?_cons_zero]; exact rfl
 case wp4 => exact rfl
 case dp4 => exact rfl
 case hp4 =>
  intro W9 hW9
  have z0 := DX.out
  go_big_quiet_op
  exact rfl
 refine Walk.step (A := ?Ap5) (o := ?op5) ?ep5 ?wp5 41 ?dp5 (by simp) ?hp5 ?np5
 case ep5 => simp only [List.getElem?_toArray, List.getElem?_cons_succ, List.getElem?_cons_zero]; exact rfl
 case wp5 => exact rfl
 case dp5 => exact rfl
 case hp5 =>
  intro W9 hW9
  obtain ⟨z0, z1, z2⟩ := Kpa.out W9 hW9
  go_big_quiet_op
  exact rfl
 refine Walk.step (A := ?Ap6) (o := ?op6) ?ep6 ?wp6 42 ?dp6 (by simp) ?hp6 ?np6
 case ep6 => simp only [List.getElem?_toArray, List.getElem?_cons_succ, List.getElem?_cons_zero]; exact rfl
 case wp6 => exact rfl
 case dp6 => exact rfl
 case hp6 =>
  intro W9 hW9
  go_big_quiet_op
  exact rfl
 refine Walk.step (A := ?Ap7) (o := ?op7) ?ep7 ?wp7 43 ?dp7 (by simp) ?hp7 ?np7
 case ep7 => simp only [List.getElem?_toArray, List.getElem?_cons_succ, List.getElem?_cons_zero]; exact rfl
 case wp7 => exact rfl
 case dp7 => exact rfl
 case hp7 =>
  intro W9 hW9
  have z0 := K0.out W9 hW9
  go_big_quiet_op
  exact rfl
 refine Walk.step (A := ?Ap8) (o := ?op8) ?ep8 ?wp8 44 ?dp8 (by simp) ?hp8 ?np8
 case ep8 => simp only [List.getElem?_toArray, List.getElem?_cons_succ, List.getElem?_cons_zero]; exact rfl
 case wp8 => exact rfl
 case dp8 => exact rfl
 case hp8 =>
  intro W9 hW9
  go_big_quiet_op
  exact rfl
 refine Walk.step (A := ?Ap9) (o := ?op9) ?ep9 ?wp9 45 ?dp9 (by simp) ?hp9 ?np9
 case ep9 => simp only [List.getElem?_toArray, List.getElem?_cons_succ, List.getElem?_cons_zero]; exact rfl
 case wp9 => exact rfl
 case dp9 => exact rfl
 case hp9 =>
  intro W9 hW9
  obtain ⟨z0, z1, z2⟩ := KT.out W9 hW9
  go_big_quiet_op
  exact rfl
 refine Walk.step (A := ?Ap10) (o := ?op10) ?ep10 ?wp10 46 ?dp10 (by simp) ?hp10 ?np10
 case ep10 => simp only [List.getElem?_toArray, List.getElem?_cons_succ, List.getElem?_cons_zero]; exact rfl
 case wp10 => exact rfl
 case dp10 => exact rfl
 case hp10 =>
  intro W9 hW9
  have z0 := DY.out
  go_big_quiet_op
  exact rfl
 refine Walk.step (A := ?Ap11) (o := ?op11) ?ep11 ?wp11 47 ?dp11 (by simp) ?hp11 ?np11
 case ep11 => simp only [List.getElem?_toArray, List.getElem?_cons_succ, List.getElem?_cons_zero]; exact rfl
 case wp11 => exact rfl
 case dp11 => exact rfl
 case hp11 =>
  intro W9 hW9
  obtain ⟨z0, z1, z2⟩ := Kpb.out W9 hW9
  go_big_quiet_op
  exact rfl
 refine Walk.step (A := ?Ap12) (o := ?op12) ?ep12 ?wp12 48 ?dp12 (by simp) ?hp12 ?np12
 case ep12 => simp only [List.getElem?_toArray, List.getElem?_cons_succ, List.getElem?_cons_zero]; exact rfl
 case wp12 => exact rfl
 case dp12 => exact rfl
 case hp12 =>
  intro W9 hW9
  go_big_quiet_op
  exact rfl
 refine Walk.step (A := ?Ap13) (o := ?op13) ?ep13 ?wp13 49 ?dp13 (by simp) ?hp13 ?np13
 case ep13 => simp only [List.getElem?_toArray, List.getElem?_cons_succ, List.getElem?_cons_zero]; exact rfl
 case wp13 => exact rfl
 case dp13 => exact rfl
 case hp13 =>
  intro W9 hW9
  have z0 := K0.out W9 hW9
  go_big_quiet_op
  exact rfl
 refine Walk.step (A := ?Ap14) (o := ?op14) ?ep14 ?wp14 50 ?dp14 (by simp) ?hp14 ?np14
 case ep14 => simp only [List.getElem?_toArray, List.getElem?_cons_succ, List.getElem?_cons_zero]; exact rfl
 case wp14 => exact rfl
 case dp14 => exact rfl
 case hp14 =>
  intro W9 hW9
  go_big_quiet_op
  exact rfl
 refine Walk.step (A := ?Ap15) (o := ?op15) ?ep15 ?wp15 51 ?dp15 (by simp) ?hp15 ?np15
 case ep15 => simp only [List.getElem?_toArray, List.getElem?_cons_succ, List.getElem?_cons_zero]; exact rfl
 case wp15 => exact rfl
 case dp15 => exact rfl
 case hp15 =>
  intro W9 hW9
  obtain ⟨z0, z1, z2⟩ := KT.out W9 hW9
  go_big_quiet_op
  exact rfl
 refine Walk.step (A := ?Ap16) (o := ?op16) ?ep16 ?wp16 52 ?dp16 (by simp) ?hp16 ?np16
 case ep16 => simp only [List.getElem?_toArray, List.getElem?_cons_succ, List.getElem?_cons_zero]; exact rfl
 case wp16 => exact rfl
 case dp16 => exact rfl
 case hp16 =>
  intro W9 hW9
  have z0 := DZ.out
  go_big_quiet_op
  exact rfl
 refine Walk.step (A := ?Ap17) (o := ?op17) ?ep17 ?wp17 53 ?dp17 (by simp) ?hp17 ?np17
 case ep17 => simp only [List.getElem?_toArray, List.getElem?_cons_succ, List.getElem?_cons_zero]; exact rfl
 case wp17 => exact rfl
 case dp17 => exact rfl
 case hp17 =>
  intro W9 hW9
  obtain ⟨z0, z1, z2⟩ := Kpc.out W9 hW9
  go_big_quiet_op
  exact rfl
 refine ⟨?_, ?_⟩
 ·
  intro x hx
  simp only [List.mem_cons, List.not_mem_nil, or_false] at hx
  rcases hx with rfl | rfl | rfl <;> rfl
 intro G hG hne w5 hD5 hk
 have k7 := hk _ (List.mem_cons_self ..)
 have k8 := hk _ (List.mem_cons_of_mem _ (List.mem_cons_self ..))
 have k9 := hk _ (List.mem_cons_of_mem _ (List.mem_cons_of_mem _ (List.mem_cons_self ..)))
 dsimp only at k7 k8 k9
 simp only [lay, Act.put, List.setIfInBounds_toArray, List.set_cons_succ, List.set_cons_zero, ptr]
 generalize G 18 = g7 at k7 ⊢
 generalize G 19 = g8 at k8 ⊢
 generalize G 20 = g9 at k9 ⊢
 have H7 := Lib.hid k7
 have H8 := Lib.hid k8
 have H9 := Lib.hid k9
 have HB9 := Lib.hid (HB4.out.trans (hD5.mono HB4.out.size))
 have HZ9 := Lib.hid (vec_step HZ4.out hD5)
 clear hG hne hD5 hk k7 k8 k9 K0 KT Kpa Kpb Kpc HRR HB4 HZ4 HR4 HT4 HP4 DX DY DZ
 go_upto_region 8 with (fail)
 obtain ⟨u0, u1, u2⟩ := cells3 H7.out
 obtain ⟨u3, u4, u5⟩ := cells3 H8.out
 obtain ⟨u6, u7, u8⟩ := cells3 H9.out
 have Q1 := Lib.hid (qb (P := Tryz.prog) (W := w5) (fun w2 hb => CL1.out w2))
 have Q2 := Lib.hid (qb (P := Tryz.prog) (W := w5) (fun w2 hb => CL2.out w2))
 have Q3 := Lib.hid (qb (P := Tryz.prog) (W := w5) (fun w2 hb => CU1.out w2))
 have Q4 := Lib.hid (qb (P := Tryz.prog) (W := w5) (fun w2 hb => CU2.out w2))
 refine wp_region_below_tail 11 (by kernel_rfl) (by kernel_rfl) ?_
 simp only [List.take_succ_cons, List.take_zero, List.drop_succ_cons, List.drop_zero]
 repeat (go_big_quiet_step (first | (with_reducible exact Q1.out _ _) | (with_reducible exact Q2.out _ _) | (with_reducible exact Q3.out _ _) | (with_reducible exact Q4.out _ _)))
 refine wpQuiet_nil ?_
 rintro _ ⟨⟨dq, osq⟩, rfl⟩
 have HZ3 := Lib.hid (heap_regrown HZ9.out dq osq)
 have HB3 := Lib.hid (HB9.out.trans ((below_regrown w5 dq osq).mono HB9.out.size))
 clear u0 u1 u2 u3 u4 u5 u6 u7 u8 HZ9 HB9 H7 H8 H9
 refine store_box rfl (.tmp 4) (.tmp 64) rfl rfl (w.heap.size + 1) l2x l2y l2z u2x u2y u2z rfl rfl _ HZ3.out rfl ?_
 go_wp2_with fail
 refine bodyPost_ret (results_cell_row rfl _ _ (w.heap.size + 1) 72 _ _ _ rfl (setRow_heap _ (w.heap.size + 1) _ _ _ _ (HZ3.out)) Tryz.underlying72 rfl box_size) rfl ?_
 exact ⟨rfl, below_setRow HB3.out (by omega) _⟩

set_option maxRecDepth 100000 in
set_option maxHeartbeats 4000000 in
theorem rbox_ball (w : World) (a0 : Option Addr) (n0 c0 : Nat) (a1 : Option Addr) (n1 c1 : Nat) (a2 : Option Addr) (n2 c2 : Nat) (N : Int) (hN : N = (n1 : Int) + (n2 : Int)) (CT : Hid (∀ w', Below w.heap.size w w' → Calls Tryz.prog 26 #[mvals a0 n0 c0 a1 n1 c1 a2 n2 c2] w' (VTo (.int .i64 N) w'))) (bs : List B4) (hbs : Recs 4 enc4 w (.slice a2 n2 c2) bs) (j : Nat) (hj : j < bs.length) (x y z r : Int) (hb : bs[j] = ⟨⟨x, y, z⟩, r⟩) (hx : In x) (hy : In y) (hz : In z) (hr : In r) (l1 : n1 ≤ 9223372036854775807) (i : Int) (hi2 : i ≤ 9223372036854775807) (hi : i = (n1 : Int) + (j : Int)) : Calls Tryz.prog 46 #[mvals a0 n0 c0 a1 n1 c1 a2 n2 c2, .int .i64 i] w (VTo (boxV (ballB ⟨⟨x, y, z⟩, r⟩)) w) := by
 have hjn : j < n2 := by rw [hbs.fits]; exact hj
 have d0 : decide (i < 0) = false := decide_eq_false (by omega)
 have d1 : decide (N ≤ i) = false := decide_eq_false (by omega)
 have d2 : decide (i < (n1 : Int)) = false := decide_eq_false (by omega)
 have wr : IntKind.i64.wrap (i - (n1 : Int)) = (j : Int) := by rw [wrap_in (by omega) (by omega)]; omega
 have d3 : decide ((j : Int) < (n2 : Int)) = true := decide_eq_true (by omega)
 have d4 : decide (j < n2) = true := decide_eq_true hjn
 have Q1 := Lib.hid (fun W => qs (P := Tryz.prog) (W := W) (fun w2 => ref_sub x r hx.1 hx.2 hr.1 hr.2 w2))
 have Q2 := Lib.hid (fun W => qs (P := Tryz.prog) (W := W) (fun w2 => ref_sub y r hy.1 hy.2 hr.1 hr.2 w2))
 have Q3 := Lib.hid (fun W => qs (P := Tryz.prog) (W := W) (fun w2 => ref_sub z r hz.1 hz.2 hr.1 hr.2 w2))
 have Q4 := Lib.hid (fun W => qs (P := Tryz.prog) (W := W) (fun w2 => ref_add x r hx.1 hx.2 hr.1 hr.2 w2))
 have Q5 := Lib.hid (fun W => qs (P := Tryz.prog) (W := W) (fun w2 => ref_add y r hy.1 hy.2 hr.1 hr.2 w2))
 have Q6 := Lib.hid (fun W => qs (P := Tryz.prog) (W := W) (fun w2 => ref_add z r hz.1 hz.2 hr.1 hr.2 w2))
 have HBS := Lib.hid hbs
 have HJ := Lib.hid hb
 clear hN hi hi2 hx hy hz hr l1 hbs hb
 unfold ballB
 dsimp only
 obtain ⟨e1, he1⟩ : ∃ e, e = subF x r := ⟨_, rfl⟩
 rw [← he1] at Q1 ⊢
 obtain ⟨e2, he2⟩ : ∃ e, e = subF y r := ⟨_, rfl⟩
 rw [← he2] at Q2 ⊢
 obtain ⟨e3, he3⟩ : ∃ e, e = subF z r := ⟨_, rfl⟩
 rw [← he3] at Q3 ⊢
 obtain ⟨e4, he4⟩ : ∃ e, e = addF x r := ⟨_, rfl⟩
 rw [← he4] at Q4 ⊢
 obtain ⟨e5, he5⟩ : ∃ e, e = addF y r := ⟨_, rfl⟩
 rw [← he5] at Q5 ⊢
 obtain ⟨e6, he6⟩ : ∃ e, e = addF z r := ⟨_, rfl⟩
 rw [← he6] at Q6 ⊢
 clear he1 he2 he3 he4 he5 he6
 obtain ⟨W, hW⟩ : ∃ W, W = W2 w a0 n0 c0 a1 n1 c1 a2 n2 c2 := ⟨_, rfl⟩
 have hB : Below w.heap.size w W := by rw [hW]; exact alloc2_below _ _ _
 have hR : W.heap[w.heap.size]? = some (.cells #[.slice a0 n0 c0, .slice a1 n1 c1, .slice a2 n2 c2] 31) := by rw [hW]; exact alloc2_0 _ _ _
 have hZ : W.heap[w.heap.size + 1]? = some (.cells #[.int .i64 0, .int .i64 0, .int .i64 0, .int .i64 0, .int .i64 0, .int .i64 0] 72) := by rw [hW]; exact alloc2_1 _ _ _
 have k0 := cell_row hR 0 (.slice a0 n0 c0) rfl
 have k1 := cell_row hR 1 (.slice a1 n1 c1) rfl
 have k2 := cell_row hR 2 (.slice a2 n2 c2) rfl
 have HR := Lib.hid hR
 have HB := Lib.hid hB
 have HZ := Lib.hid hZ
 have HWW := Lib.hid hW
 rw [hW] at k0 k1 k2
 clear hR hB hZ hW
 unfold mvals W2 at *
 go_enter Tryz.func46, Tryz.ntmps46
 go_wp2_with fail
 rw [← HWW.out]
 clear k0 k1 k2
 refine (CT.out _ HB.out).mono ?_
 rintro e w1 ⟨rfl, hb1⟩
 have HB1 := Lib.hid (HB.out.trans (hb1.mono HB.out.size))
 have HZ1 := Lib.hid (vec_step HZ.out hb1)
 have HR1 := Lib.hid (vec_step HR.out hb1)
 have HW1 := Lib.hid (HB.out.trans (hb1.mono HB.out.size))
 clear hb1 CT HB HZ HR HWW
 have k0 := cell_row HR1.out 0 (.slice a0 n0 c0) rfl
 have k1 := cell_row HR1.out 1 (.slice a1 n1 c1) rfl
 have k2 := cell_row HR1.out 2 (.slice a2 n2 c2) rfl
 obtain ⟨b, off, e, hbl, p0, p1, p2, p3⟩ := at4 (HBS.out.below HW1.out (Nat.le_refl _)) j hj
 subst e
 rw [HJ.out] at p0 p1 p2 p3
 clear HBS HJ hbl
 dsimp only at p0 p1 p2 p3
 go_upto_region 10 with (with_reducible refine store_ball rfl (.tmp 9) (.tmp 73) rfl rfl w1.heap.size x y z r rfl rfl _ (heap_alloc_new _ _) rfl ?_)
 clear k0 k1 k2 p0 p1 p2 p3
 have H5 := Lib.hid (put4_row w1 51 #[.int .i64 0, .int .i64 0, .int .i64 0, .int .i64 0] #[.int .i64 x, .int .i64 y, .int .i64 z, .int .i64 r])
 have HB5 := Lib.hid (put_ext w1 (.cells #[.int .i64 0, .int .i64 0, .int .i64 0, .int .i64 0] 51) #[.int .i64 x, .int .i64 y, .int .i64 z, .int .i64 r])
 have HB2 := Lib.hid (HB1.out.trans (HB5.out.mono HB1.out.size))
 have HZ2 := Lib.hid (vec_step HZ1.out HB5.out)
 clear HB1 HB5 HR1 HZ1 HW1
 obtain ⟨W3, hW3⟩ : ∃ W, W = (w1.alloc (.cells #[.int .i64 0, .int .i64 0, .int .i64 0, .int .i64 0] 51)).setRow w1.heap.size #[.int .i64 x, .int .i64 y, .int .i64 z, .int .i64 r] := ⟨_, rfl⟩
 rw [← hW3] at H5 HB2 HZ2 ⊢
 clear hW3
 generalize w1.heap.size = g5 at H5 ⊢
 have Ja0 := Lib.hid (fun W9 (hb : Below W3.heap.size W3 W9) => cell_all (vec_step H5.out hb) 0 (.int .i64 x) rfl)
 have Ja1 := Lib.hid (fun W9 (hb : Below W3.heap.size W3 W9) => cell_all (vec_step H5.out hb) 1 (.int .i64 y) rfl)
 have Ja2 := Lib.hid (fun W9 (hb : Below W3.heap.size W3 W9) => cell_all (vec_step H5.out hb) 2 (.int .i64 z) rfl)
 have Ja3 := Lib.hid (fun W9 (hb : Below W3.heap.size W3 W9) => cell_all (vec_step H5.out hb) 3 (.int .i64 r) rfl)
 refine wp_region_free 115 [0, 1, 2, 3, 4, 5, 6, 7, 8, 9, 10, 11, 12, 13, 14, 15, 16, 17, 18] [⟨19, 10, #[.int .i64 0, .int .i64 0, .int .i64 0], 46, 20, 92, #[.int .i64 e1, .int .i64 e2, .int .i64 e3]⟩] (by kernel_rfl) rfl (by kernel_rfl) (by
  intro x hx
  simp only [List.mem_cons, List.not_mem_nil, or_false] at hx
  rcases hx with rfl
  ·
   exact ⟨⟨_, rfl, ⟨⟨_, rfl, alloc_vec⟩, rfl, rfl⟩⟩, _, rfl, ⟨⟨_, rfl, vec_size⟩, rfl, rfl, rfl, row_one _ _ _⟩⟩) ?_
 refine Walk.step (A := ?Aa0) (o := ?oa0) ?ea0 ?wa0 74 ?da0 (by simp) ?ha0 ?na0
 case ea0 => simp only [List.getElem?_toArray, List.getElem?_cons_succ, List.getElem?_cons_zero]; exact rfl
 case wa0 => exact rfl
 case da0 => exact rfl
 case ha0 =>
  intro W9 hW9
  go_big_quiet_op
  exact rfl
 refine Walk.step (A := ?Aa1) (o := ?oa1) ?ea1 ?wa1 75 ?da1 (by simp) ?ha1 ?na1
 case ea1 => simp only [List.getElem?_toArray, List.getElem?_cons_succ, List.getElem?_cons_zero]; exact rfl
 case wa1 => exact rfl
 case da1 => exact rfl
 case ha1 =>
  intro W9 hW9
  go_big_quiet_op
  exact rfl
 refine Walk.step (A := ?Aa2) (o := ?oa2) ?ea2 ?wa2 76 ?da2 (by simp) ?ha2 ?na2
 case ea2 => simp only [List.getElem?_toArray, List.getElem?_cons_succ, List.getElem?_cons_zero]; exact rfl
 case wa2 => exact rfl
 case da2 => exact rfl
 case ha2 =>
  intro W9 hW9
  have z0 := Ja0.out W9 hW9
  go_big_quiet_op
  exact rfl
 refine Walk.step (A := ?Aa3) (o := ?oa3) ?ea3 ?wa3 77 ?da3 (by simp) ?ha3 ?na3
 case ea3 => simp only [List.getElem?_toArray, List.getElem?_cons_succ, List.getElem?_cons_zero]; exact rfl
 case wa3 => exact rfl
 case da3 => exact rfl
 case ha3 =>
  intro W9 hW9
  go_big_quiet_op
  exact rfl
 refine Walk.step (A := ?Aa4) (o := ?oa4) ?ea4 ?wa4 78 ?da4 (by simp) ?ha4 ?na4
 case ea4 => simp only [List.getElem?_toArray, List.getElem?_cons_succ, List.getElem?_cons_zero]; exact rfl
 case wa4 => exact rfl
 case da4 => exact rfl
 case ha4 =>
  intro W9 hW9
  have z0 := Ja3.out W9 hW9
  go_big_quiet_op
  exact rfl
 refine Walk.step (A := ?Aa5) (o := ?oa5) ?ea5 ?wa5 79 ?da5 (by simp) ?ha5 ?na5
 case ea5 => simp only [List.getElem?_toArray, List.getElem?_cons_succ, List.getElem?_cons_zero]; exact rfl
 case wa5 => exact rfl
 case da5 => exact rfl
 case ha5 =>
  intro W9 hW9
  go_big_quiet_op
  apply Exists.intro
  refine ⟨fun _ => ?_, ?_⟩
  ·
   with_reducible exact Q1.out _ _ _
  exact rfl
 refine Walk.step (A := ?Aa6) (o := ?oa6) ?ea6 ?wa6 80 ?da6 (by simp) ?ha6 ?na6
 case ea6 => simp only [List.getElem?_toArray, List.getElem?_cons_succ, List.getElem?_cons_zero]; exact rfl
 case wa6 => exact rfl
 case da6 => exact rfl
 case ha6 =>
  intro W9 hW9
  go_big_quiet_op
  exact rfl
 refine Walk.step (A := ?Aa7) (o := ?oa7) ?ea7 ?wa7 81 ?da7 (by simp) ?ha7 ?na7
 case ea7 => simp only [List.getElem?_toArray, List.getElem?_cons_succ, List.getElem?_cons_zero]; exact rfl
 case wa7 => exact rfl
 case da7 => exact rfl
 case ha7 =>
  intro W9 hW9
  go_big_quiet_op
  exact rfl
 refine Walk.step (A := ?Aa8) (o := ?oa8) ?ea8 ?wa8 82 ?da8 (by simp) ?ha8 ?na8
 case ea8 => simp only [List.getElem?_toArray, List.getElem?_cons_succ, List.getElem?_cons_zero]; exact rfl
 case wa8 => exact rfl
 case da8 => exact rfl
 case ha8 =>
  intro W9 hW9
  have z0 := Ja1.out W9 hW9
  go_big_quiet_op
  exact rfl
 refine Walk.step (A := ?Aa9) (o := ?oa9) ?ea9 ?wa9 83 ?da9 (by simp) ?ha9 ?na9
 case ea9 => simp only [List.getElem?_toArray, List.getElem?_cons_succ, List.getElem?_cons_zero]; exact rfl
 case wa9 => exact rfl
 case da9 => exact rfl
 case ha9 =>
  intro W9 hW9
  go_big_quiet_op
  exact rfl
 refine Walk.step (A := ?Aa10) (o := ?oa10) ?ea10 ?wa10 84 ?da10 (by simp) ?ha10 ?na10
 case ea10 => simp only [List.getElem?_toArray, List.getElem?_cons_succ, List.getElem?_cons_zero]; exact rfl
 case wa10 => exact rfl
 case da10 => exact rfl
 case ha10 =>
  intro W9 hW9
  have z0 := Ja3.out W9 hW9
  go_big_quiet_op
  exact rfl
 refine Walk.step (A := ?Aa11) (o := ?oa11) ?ea11 ?wa11 85 ?da11 (by simp) ?ha11 ?na11
 case ea11 => simp only [List.getElem?_toArray, List.getElem?_cons_succ, List.getElem?_cons_zero]; exact rfl
 case wa11 => exact rfl
 case da11 => exact rfl
 case ha11 =>
  intro W9 hW9
  go_big_quiet_op
  apply Exists.intro
  refine ⟨fun _ => ?_, ?_⟩
  ·
   with_reducible exact Q2.out _ _ _
  exact rfl
 refine Walk.step (A := ?Aa12) (o := ?oa12) ?ea12 ?wa12 86 ?da12 (by simp) ?ha12 ?na12
 case ea12 => simp only [List.getElem?_toArray, List.getElem?_cons_succ, List.getElem?_cons_zero]; exact rfl
 case wa12 => exact rfl
 case da12 => exact rfl
 case ha12 =>
  intro W9 hW9
  go_big_quiet_op
  exact rfl
 refine Walk.step (A := ?Aa13) (o := ?oa13) ?ea13 ?wa13 87 ?da13 (by simp) ?ha13 ?na13
 case ea13 => simp only [List.getElem?_toArray, List.getElem?_cons_succ, List.getElem?_cons_zero]; exact rfl
 case wa13 => exact rfl
 case da13 => exact rfl
 case ha13 =>
  intro W9 hW9
  go_big_quiet_op
  exact rfl
 refine Walk.step (A := ?Aa14) (o := ?oa14) ?ea14 ?wa14 88 ?da14 (by simp) ?ha14 ?na14
 case ea14 => simp only [List.getElem?_toArray, List.getElem?_cons_succ, List.getElem?_cons_zero]; exact rfl
 case wa14 => exact rfl
 case da14 => exact rfl
 case ha14 =>
  intro W9 hW9
  have z0 := Ja2.out W9 hW9
  go_big_quiet_op
  exact rfl
 refine Walk.step (A := ?Aa15) (o := ?oa15) ?ea15 ?wa15 89 ?da15 (by simp) ?ha15 ?na15
 case ea15 => simp only [List.getElem?_toArray, List.getElem?_cons_succ, List.getElem?_cons_zero]; exact rfl
 case wa15 => exact rfl
 case da15 => exact rfl
 case ha15 =>
  intro W9 hW9
  go_big_quiet_op
  exact rfl
 refine Walk.step (A := ?Aa16) (o := ?oa16) ?ea16 ?wa16 90 ?da16 (by simp) ?ha16 ?na16
 case ea16 => simp only [List.getElem?_toArray, List.getElem?_cons_succ, List.getElem?_cons_zero]; exact rfl
 case wa16 => exact rfl
 case da16 => exact rfl
 case ha16 =>
  intro W9 hW9
  have z0 := Ja3.out W9 hW9
  go_big_quiet_op
  exact rfl
 refine Walk.step (A := ?Aa17) (o := ?oa17) ?ea17 ?wa17 91 ?da17 (by simp) ?ha17 ?na17
 case ea17 => simp only [List.getElem?_toArray, List.getElem?_cons_succ, List.getElem?_cons_zero]; exact rfl
 case wa17 => exact rfl
 case da17 => exact rfl
 case ha17 =>
  intro W9 hW9
  go_big_quiet_op
  apply Exists.intro
  refine ⟨fun _ => ?_, ?_⟩
  ·
   with_reducible exact Q3.out _ _ _
  exact rfl
 refine Walk.step (A := ?Aa18) (o := ?oa18) ?ea18 ?wa18 92 ?da18 (by simp) ?ha18 ?na18
 case ea18 => simp only [List.getElem?_toArray, List.getElem?_cons_succ, List.getElem?_cons_zero]; exact rfl
 case wa18 => exact rfl
 case da18 => exact rfl
 case ha18 =>
  intro W9 hW9
  go_big_quiet_op
  exact rfl
 refine ⟨?_, ?_⟩
 ·
  intro x hx
  simp only [List.mem_cons, List.not_mem_nil, or_false] at hx
  subst hx
  rfl
 intro G hG hne w5 hD5 hk
 have k7 := hk _ (List.mem_cons_self ..)
 dsimp only at k7
 simp only [lay, Act.put, List.setIfInBounds_toArray, List.set_cons_succ, List.set_cons_zero, ptr]
 generalize G 19 = g7 at k7 ⊢
 have H7 := Lib.hid k7
 have HB6 := Lib.hid (HB2.out.trans (hD5.mono HB2.out.size))
 have HZ6 := Lib.hid (vec_step HZ2.out hD5)
 have H6 := Lib.hid (vec_step H5.out hD5)
 clear hG hne hD5 hk k7 Ja0 Ja1 Ja2 Ja3 Q1 Q2 Q3 HB2 HZ2 H5
 go_upto_region 11 with (fail)
 have Jb0 := Lib.hid (fun W9 (hb : Below w5.heap.size w5 W9) => cell_all (vec_step H6.out hb) 0 (.int .i64 x) rfl)
 have Jb1 := Lib.hid (fun W9 (hb : Below w5.heap.size w5 W9) => cell_all (vec_step H6.out hb) 1 (.int .i64 y) rfl)
 have Jb2 := Lib.hid (fun W9 (hb : Below w5.heap.size w5 W9) => cell_all (vec_step H6.out hb) 2 (.int .i64 z) rfl)
 have Jb3 := Lib.hid (fun W9 (hb : Below w5.heap.size w5 W9) => cell_all (vec_step H6.out hb) 3 (.int .i64 r) rfl)
 refine wp_region_free 115 [0, 1, 2, 3, 4, 5, 6, 7, 8, 9, 10, 11, 12, 13, 14, 15, 16, 17, 18] [⟨19, 11, #[.int .i64 0, .int .i64 0, .int .i64 0], 46, 20, 111, #[.int .i64 e4, .int .i64 e5, .int .i64 e6]⟩] (by kernel_rfl) rfl (by kernel_rfl) (by
  intro x hx
  simp only [List.mem_cons, List.not_mem_nil, or_false] at hx
  rcases hx with rfl
  ·
   exact ⟨⟨_, rfl, ⟨⟨_, rfl, alloc_vec⟩, rfl, rfl⟩⟩, _, rfl, ⟨⟨_, rfl, vec_size⟩, rfl, rfl, rfl, row_one _ _ _⟩⟩) ?_
 refine Walk.step (A := ?Ab0) (o := ?ob0) ?eb0 ?wb0 93 ?db0 (by simp) ?hb0 ?nb0
 case eb0 => simp only [List.getElem?_toArray, List.getElem?_cons_succ, List.getElem?_cons_zero]; exact rfl
 case wb0 => exact rfl
 case db0 => exact rfl
 case hb0 =>
  intro W9 hW9
  go_big_quiet_op
  exact rfl
 refine Walk.step (A := ?Ab1) (o := ?ob1) ?eb1 ?wb1 94 ?db1 (by simp) ?hb1 ?nb1
 case eb1 => simp only [List.getElem?_toArray, List.getElem?_cons_succ, List.getElem?_cons_zero]; exact rfl
 case wb1 => exact rfl
 case db1 => exact rfl
 case hb1 =>
  intro W9 hW9
  go_big_quiet_op
  exact rfl
 refine Walk.step (A := ?Ab2) (o := ?ob2) ?eb2 ?wb2 95 ?db2 (by simp) ?hb2 ?nb2
 case eb2 => simp only [List.getElem?_toArray, List.getElem?_cons_succ, List.getElem?_cons_zero]; exact rfl
 case wb2 => exact rfl
 case db2 => exact rfl
 case hb2 =>
  intro W9 hW9
  have z0 := Jb0.out W9 hW9
  go_big_quiet_op
  exact rfl
 refine Walk.step (A := ?Ab3) (o := ?ob3) ?eb3 ?wb3 96 ?db3 (by simp) ?hb3 ?nb3
 case eb3 => simp only [List.getElem?_toArray, List.getElem?_cons_succ, List.getElem?_cons_zero]; exact rfl
 case wb3 => exact rfl
 case db3 => exact rfl
 case hb3 =>
  intro W9 hW9
  go_big_quiet_op
  exact rfl
 refine Walk.step (A := ?Ab4) (o := ?ob4) ?eb4 ?wb4 97 ?db4 (by simp) ?hb4 ?nb4
 case eb4 => simp only [List.getElem?_toArray, List.getElem?_cons_succ, List.getElem?_cons_zero]; exact rfl
 case wb4 => exact rfl
 case db4 => exact rfl
 case hb4 =>
  intro W9 hW9
  have z0 := Jb3.out W9 hW9
  go_big_quiet_op
  exact rfl
 refine Walk.step (A := ?Ab5) (o := ?ob5) ?eb5 ?wb5 98 ?db5 (by simp) ?hb5 ?nb5
 case eb5 => simp only [List.getElem?_toArray, List.getElem?_cons_succ, List.getElem?_cons_zero]; exact rfl
 case wb5 => exact rfl
 case db5 => exact rfl
 case hb5 =>
  intro W9 hW9
  go_big_quiet_op
  apply Exists.intro
  refine ⟨fun _ => ?_, ?_⟩
  ·
   with_reducible exact Q4.out _ _ _
  exact rfl
 refine Walk.step (A := ?Ab6) (o := ?ob6) ?eb6 ?wb6 99 ?db6 (by simp) ?hb6 ?nb6
 case eb6 => simp only [List.getElem?_toArray, List.getElem?_cons_succ, List.getElem?_cons_zero]; exact rfl
 case wb6 => exact rfl
 case db6 => exact rfl
 case hb6 =>
  intro W9 hW9
  go_big_quiet_op
  exact rfl
 refine Walk.step (A := ?Ab7) (o := ?ob7) ?eb7 ?wb7 100 ?db7 (by simp) ?hb7 ?nb7
 case eb7 => simp only [List.getElem?_toArray, List.getElem?_cons_succ, List.getElem?_cons_zero]; exact rfl
 case wb7 => exact rfl
 case db7 => exact rfl
 case hb7 =>
  intro W9 hW9
  go_big_quiet_op
  exact rfl
 refine Walk.step (A := ?Ab8) (o := ?ob8) ?eb8 ?wb8 101 ?db8 (by simp) ?hb8 ?nb8
 case eb8 => simp only [List.getElem?_toArray, List.getElem?_cons_succ, List.getElem?_cons_zero]; exact rfl
 case wb8 => exact rfl
 case db8 => exact rfl
 case hb8 =>
  intro W9 hW9
  have z0 := Jb1.out W9 hW9
  go_big_quiet_op
  exact rfl
 refine Walk.step (A := ?Ab9) (o := ?ob9) ?eb9 ?wb9 102 ?db9 (by simp) ?hb9 ?nb9
 case eb9 => simp only [List.getElem?_toArray, List.getElem?_cons_succ, List.getElem?_cons_zero]; exact rfl
 case wb9 => exact rfl
 case db9 => exact rfl
 case hb9 =>
  intro W9 hW9
  go_big_quiet_op
  exact rfl
 refine Walk.step (A := ?Ab10) (o := ?ob10) ?eb10 ?wb10 103 ?db10 (by simp) ?hb10 ?nb10
 case eb10 => simp only [List.getElem?_toArray, List.getElem?_cons_succ, List.getElem?_cons_zero]; exact rfl
 case wb10 => exact rfl
 case db10 => exact rfl
 case hb10 =>
  intro W9 hW9
  have z0 := Jb3.out W9 hW9
  go_big_quiet_op
  exact rfl
 refine Walk.step (A := ?Ab11) (o := ?ob11) ?eb11 ?wb11 104 ?db11 (by simp) ?hb11 ?nb11
 case eb11 => simp only [List.getElem?_toArray, List.getElem?_cons_succ, List.getElem?_cons_zero]; exact rfl
 case wb11 => exact rfl
 case db11 => exact rfl
 case hb11 =>
  intro W9 hW9
  go_big_quiet_op
  apply Exists.intro
  refine ⟨fun _ => ?_, ?_⟩
  ·
   with_reducible exact Q5.out _ _ _
  exact rfl
 refine Walk.step (A := ?Ab12) (o := ?ob12) ?eb12 ?wb12 105 ?db12 (by simp) ?hb12 ?nb12
 case eb12 => simp only [List.getElem?_toArray, List.getElem?_cons_succ, List.getElem?_cons_zero]; exact rfl
 case wb12 => exact rfl
 case db12 => exact rfl
 case hb12 =>
  intro W9 hW9
  go_big_quiet_op
  exact rfl
 refine Walk.step (A := ?Ab13) (o := ?ob13) ?eb13 ?wb13 106 ?db13 (by simp) ?hb13 ?nb13
 case eb13 => simp only [List.getElem?_toArray, List.getElem?_cons_succ, List.getElem?_cons_zero]; exact rfl
 case wb13 => exact rfl
 case db13 => exact rfl
 case hb13 =>
  intro W9 hW9
  go_big_quiet_op
  exact rfl
 refine Walk.step (A := ?Ab14) (o := ?ob14) ?eb14 ?wb14 107 ?db14 (by simp) ?hb14 ?nb14
 case eb14 => simp only [List.getElem?_toArray, List.getElem?_cons_succ, List.getElem?_cons_zero]; exact rfl
 case wb14 => exact rfl
 case db14 => exact rfl
 case hb14 =>
  intro W9 hW9
  have z0 := Jb2.out W9 hW9
  go_big_quiet_op
  exact rfl
 refine Walk.step (A := ?Ab15) (o := ?ob15) ?eb15 ?wb15 108 ?db15 (by simp) ?hb15 ?nb15
 case eb15 => simp only [List.getElem?_toArray, List.getElem?_cons_succ, List.getElem?_cons_zero]; exact rfl
 case wb15 => exact rfl
 case db15 => exact rfl
 case hb15 =>
  intro W9 hW9
  go_big_quiet_op
  exact rfl
 refine Walk.step (A := ?Ab16) (o := ?ob16) ?eb16 ?wb16 109 ?db16 (by simp) ?hb16 ?nb16
 case eb16 => simp only [List.getElem?_toArray, List.getElem?_cons_succ, List.getElem?_cons_zero]; exact rfl
 case wb16 => exact rfl
 case db16 => exact rfl
 case hb16 =>
  intro W9 hW9
  have z0 := Jb3.out W9 hW9
  go_big_quiet_op
  exact rfl
 refine Walk.step (A := ?Ab17) (o := ?ob17) ?eb17 ?wb17 110 ?db17 (by simp) ?hb17 ?nb17
 case eb17 => simp only [List.getElem?_toArray, List.getElem?_cons_succ, List.getElem?_cons_zero]; exact rfl
 case wb17 => exact rfl
 case db17 => exact rfl
 case hb17 =>
  intro W9 hW9
  go_big_quiet_op
  apply Exists.intro
  refine ⟨fun _ => ?_, ?_⟩
  ·
   with_reducible exact Q6.out _ _ _
  exact rfl
 refine Walk.step (A := ?Ab18) (o := ?ob18) ?eb18 ?wb18 111 ?db18 (by simp) ?hb18 ?nb18
 case eb18 => simp only [List.getElem?_toArray, List.getElem?_cons_succ, List.getElem?_cons_zero]; exact rfl
 case wb18 => exact rfl
 case db18 => exact rfl
 case hb18 =>
  intro W9 hW9
  go_big_quiet_op
  exact rfl
 refine ⟨?_, ?_⟩
 ·
  intro x hx
  simp only [List.mem_cons, List.not_mem_nil, or_false] at hx
  subst hx
  rfl
 intro G hG hne w6 hD6 hk
 have k8 := hk _ (List.mem_cons_self ..)
 dsimp only at k8
 simp only [lay, Act.put, List.setIfInBounds_toArray, List.set_cons_succ, List.set_cons_zero, ptr]
 generalize G 19 = g8 at k8 ⊢
 obtain ⟨u0, u1, u2⟩ := cells_now (vec_step H7.out hD6)
 obtain ⟨u3, u4, u5⟩ := cells_now k8
 have HB9 := Lib.hid (HB6.out.trans (hD6.mono HB6.out.size))
 have HZ9 := Lib.hid (vec_step HZ6.out hD6)
 clear hG hne hD6 hk k8 Jb0 Jb1 Jb2 Jb3 Q4 Q5 Q6 HB6 HZ6 H6 H7
 go_wp2_with (with_reducible refine store_box rfl (.tmp 4) (.tmp 114) rfl rfl (w.heap.size + 1) e1 e2 e3 e4 e5 e6 rfl rfl _ HZ9.out rfl ?_)
 refine bodyPost_ret (results_cell_row rfl _ _ (w.heap.size + 1) 72 _ _ _ rfl (setRow_heap _ (w.heap.size + 1) _ _ _ _ (HZ9.out)) Tryz.underlying72 rfl box_size) rfl ?_
 exact ⟨rfl, below_setRow HB9.out (by omega) _⟩

theorem rbox_any (v : Value) (m : Msh) (w : World) (hm : IsMesh w v m) (ok : m.ok) (hl : m.ts.length + m.bs.length ≤ 9223372036854775807) (i : Int) (hi : In i) : Calls Tryz.prog 46 #[v, .int .i64 i] w (VTo (boxV (boxF m i)) w) := by
 have hm0 := hm
 obtain ⟨a0, c0, a1, c1, a2, c2, rfl, h0, h1, h2, l0, l1, l2⟩ := hm.open_
 have CT : Hid (∀ w', Below w.heap.size w w' → Calls Tryz.prog 26 #[mvals a0 m.ps.length c0 a1 m.ts.length c1 a2 m.bs.length c2] w' (VTo (.int .i64 ((m.ts.length : Int) + (m.bs.length : Int))) w')) := Lib.hid (fun w' hb => by
  have := rcount_any _ m w' (hm0.below hb) hl
  rwa [show ((m.ts.length + m.bs.length : Nat) : Int) = (m.ts.length : Int) + (m.bs.length : Int) from by simp] at this)
 unfold boxF
 by_cases hi0 : i < 0
 ·
  rw [if_pos (.inl hi0)]
  exact rbox_neg w _ _ _ _ _ _ _ _ _ i hi0
 by_cases hi1 : (m.ts.length : Int) + (m.bs.length : Int) ≤ i
 ·
  rw [if_pos (.inr hi1)]
  exact rbox_far w _ _ _ _ _ _ _ _ _ _ rfl CT i (by omega) hi1
 rw [if_neg (by omega)]
 by_cases hi2 : i < (m.ts.length : Int)
 ·
  rw [if_pos hi2]
  obtain ⟨j, rfl⟩ := Int.eq_ofNat_of_zero_le (by omega : 0 ≤ i)
  have hj : j < m.ts.length := by omega
  have e1 : m.ts.getD (j : Int).toNat v0 = m.ts[j] := by simp [hj]
  rw [e1]
  unfold triF
  obtain ⟨⟨x, y, z⟩, ht⟩ : ∃ t, t = m.ts[j] := ⟨_, rfl⟩
  rw [← ht]
  cases hh : hasF m.ps.length ⟨x, y, z⟩
  ·
   simp only [Bool.false_eq_true, if_false]
   exact rbox_hasnt w _ _ _ _ _ _ _ _ _ _ rfl CT m.ts h1 j hj x y z ht.symm l0 hh
  ·
   simp only [if_true]
   have hx := hh
   simp only [hasF, placeI, Bool.and_eq_true, decide_eq_true_eq] at hx
   obtain ⟨⟨⟨x0, x1⟩, y0, y1⟩, z0, z1⟩ := hx
   obtain ⟨x, rfl⟩ := Int.eq_ofNat_of_zero_le x0
   obtain ⟨y, rfl⟩ := Int.eq_ofNat_of_zero_le y0
   obtain ⟨z, rfl⟩ := Int.eq_ofNat_of_zero_le z0
   have hx : x < m.ps.length := by omega
   have hy : y < m.ps.length := by omega
   have hz : z < m.ps.length := by omega
   have := rbox_tri w _ _ _ _ _ _ _ _ _ _ rfl CT m.ts m.ps h1 h0 j hj x y z ht.symm hx hy hz l0 hh
   simpa [ptF, hx, hy, hz] using this
 ·
  rw [if_neg hi2]
  obtain ⟨j, hj⟩ : ∃ j : Nat, (j : Int) = i - (m.ts.length : Int) := ⟨(i - (m.ts.length : Int)).toNat, by omega⟩
  have hjb : j < m.bs.length := by omega
  have e1 : m.bs.getD (i - (m.ts.length : Int)).toNat ⟨v0, 0⟩ = m.bs[j] := by rw [← hj]; simp [hjb]
  rw [e1]
  have hok := ok.bs m.bs[j] (List.getElem_mem hjb)
  obtain ⟨⟨⟨x, y, z⟩, r⟩, hb⟩ : ∃ t, t = m.bs[j] := ⟨_, rfl⟩
  rw [← hb] at hok ⊢
  exact rbox_ball w _ _ _ _ _ _ _ _ _ _ rfl CT m.bs h2 j hjb x y z r hb.symm hok.1.1 hok.1.2.1 hok.1.2.2 hok.2 l1 i hi.2 (by omega)
end Go.Proofs.YtdaokkgenfpmhaaGreat.MeshR

/- Where rays meet boxes, triangles and balls: what layer 13 reckons. Plain. -/
set_option linter.unusedVariables false
set_option linter.unusedSimpArgs false
namespace Go.Proofs.YtdaokkgenfpmhaaGreat.HitM
open Go FixM VecW VecV VecU MeshM MeshP

structure Ry where
 o : V3
 d : V3
def Ry.ok (r : Ry) : Prop := r.o.ok ∧ r.d.ok
structure Ht where
 t : Int
 i : Int
 u : Int
 v : Int
abbrev rayV (r : Ry) : Value := .agg #[.int .i64 r.o.x, .int .i64 r.o.y, .int .i64 r.o.z, .int .i64 r.d.x, .int .i64 r.d.y, .int .i64 r.d.z]
abbrev hitV (h : Ht) : Value := .agg #[.int .i64 h.t, .int .i64 h.i, .int .i64 h.u, .int .i64 h.v]
def Bx.ok (b : Bx) : Prop := b.lo.ok ∧ b.hi.ok
def ONE : Int := 4294967296
def MOST : Int := 9223372036854775807
theorem ok_map2sub (a b : V3) : (map2 subF a b).ok := ⟨clamp_in _, clamp_in _, clamp_in _⟩
theorem in_sqrt {a : Int} (h : In a) : In (sqrtF a) := by
 have := sqrtF_in a h.2
 unfold In; omega

/-! a side of a box -/
def loF (o d lo hi : Int) : Int := if d < 0 then divF (subF hi o) d else divF (subF lo o) d
def hiF (o d lo hi : Int) : Int := if d < 0 then divF (subF lo o) d else divF (subF hi o) d
def maxI (a b : Int) : Int := if b > a then b else a
def minI (a b : Int) : Int := if b < a then b else a
/-- the way's part within one side: none where it passes by -/
def sideF (o d lo hi : Int) (s : Int × Int) : Option (Int × Int) :=
 if d = 0 then (if lo ≤ o ∧ o ≤ hi then some s else none) else some (maxI s.1 (loF o d lo hi), minI s.2 (hiF o d lo hi))
def boxH (r : Ry) (b : Bx) : Option Int :=
 (sideF r.o.x r.d.x b.lo.x b.hi.x (0, MOST)).bind fun s => (sideF r.o.y r.d.y b.lo.y b.hi.y s).bind fun s => (sideF r.o.z r.d.z b.lo.z b.hi.z s).bind fun s => if s.1 ≤ s.2 then some s.1 else none
def boxR (x : Option Int) : Value := .tuple #[.int .i64 (x.getD 0), .bool x.isSome]
/-! a triangle -/
def triN (r : Ry) (a b c : V3) : Int := dotF (map2 subF b a) (crossF r.d (map2 subF c a))
def triU (r : Ry) (a b c : V3) : Int := divF (dotF (map2 subF r.o a) (crossF r.d (map2 subF c a))) (triN r a b c)
def triQ (r : Ry) (a b : V3) : V3 := crossF (map2 subF r.o a) (map2 subF b a)
def triV (r : Ry) (a b c : V3) : Int := divF (dotF r.d (triQ r a b)) (triN r a b c)
def triT (r : Ry) (a b c : V3) : Int := divF (dotF (map2 subF c a) (triQ r a b)) (triN r a b c)
def triH (r : Ry) (a b c : V3) : Option Ht :=
 if triN r a b c = 0 then none
 else if triU r a b c < 0 ∨ ONE < triU r a b c then none
 else if triV r a b c < 0 ∨ ONE < addF (triU r a b c) (triV r a b c) then none
 else if triT r a b c < 0 then none
 else some ⟨triT r a b c, 0, triU r a b c, triV r a b c⟩
def ht0 : Ht := ⟨0, 0, 0, 0⟩
def htN : Ht := ⟨0, -1, 0, 0⟩
def triR (x : Option Ht) : Value := .tuple #[hitV (x.getD ht0), .bool x.isSome]
/-! a ball -/
def ballA (r : Ry) : Int := dotF r.d r.d
def ballHh (r : Ry) (b : B4) : Int := dotF (map2 subF r.o b.c) r.d
def ballC (r : Ry) (b : B4) : Int := subF (dotF (map2 subF r.o b.c) (map2 subF r.o b.c)) (mulF b.r b.r)
def ballW (r : Ry) (b : B4) : Int := subF (mulF (ballHh r b) (ballHh r b)) (mulF (ballA r) (ballC r b))
def ballX (r : Ry) (b : B4) : Int := divF (subF (negF (ballHh r b)) (sqrtF (ballW r b))) (ballA r)
def ballY (r : Ry) (b : B4) : Int := divF (addF (negF (ballHh r b)) (sqrtF (ballW r b))) (ballA r)
def ballH (r : Ry) (b : B4) : Option (Int × Int) := if ballA r = 0 ∨ ballW r b < 0 then none else some (ballX r b, ballY r b)
def ballR (x : Option (Int × Int)) : Value := .tuple #[.int .i64 (x.getD (0, 0)).1, .int .i64 (x.getD (0, 0)).2, .bool x.isSome]
end Go.Proofs.YtdaokkgenfpmhaaGreat.HitM

/- More plain words for the walks: results that lie in rows of cells. -/
set_option linter.unusedVariables false
set_option linter.unusedSimpArgs false
namespace Go.Proofs.YtdaokkgenfpmhaaGreat.Base
open Go.RowKit

theorem results_row_tmp {fn : Func} {p u : Tmp} {ty : TypeId} (h : fn.results = #[.cell p ty, .tmp u]) (tmps : Array Value) (P : Program) (w : World) (g : Nat) (t : TypeId) (cs : Array Value) (fr : Nat × Nat) (fs : _)
  (hp : tmps.getD p undef = .pointer (some ⟨g, 0, none⟩)) (hg : w.heap[g]? = some (.cells cs t fr))
  (hu : P.underlying ty = some (.struct fs)) (hi : (P.info? ty).map (·.size) = some cs.size) :
  (results fn tmps).run P w = .ok (.tuple #[.agg cs, tmps.getD u undef]) w := by
 have hp' : tmps[p]?.getD undef = .pointer (some ⟨g, 0, none⟩) := by simpa using hp
 simp [results, h, hp', asAddr, run_loadVar_row w g t ty cs fr _ hg hu rfl hi]
theorem results_row_tmp2 {fn : Func} {p u u2 : Tmp} {ty : TypeId} (h : fn.results = #[.cell p ty, .tmp u, .tmp u2]) (tmps : Array Value) (P : Program) (w : World) (g : Nat) (t : TypeId) (cs : Array Value) (fr : Nat × Nat) (fs : _)
  (hp : tmps.getD p undef = .pointer (some ⟨g, 0, none⟩)) (hg : w.heap[g]? = some (.cells cs t fr))
  (hu : P.underlying ty = some (.struct fs)) (hi : (P.info? ty).map (·.size) = some cs.size) :
  (results fn tmps).run P w = .ok (.tuple #[.agg cs, tmps.getD u undef, tmps.getD u2 undef]) w := by
 have hp' : tmps[p]?.getD undef = .pointer (some ⟨g, 0, none⟩) := by simpa using hp
 simp [results, h, hp', asAddr, run_loadVar_row w g t ty cs fr _ hg hu rfl hi]
end Go.Proofs.YtdaokkgenfpmhaaGreat.Base

