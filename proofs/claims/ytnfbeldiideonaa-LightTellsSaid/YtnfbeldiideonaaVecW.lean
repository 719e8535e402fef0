/- The walks of package vec. -/
import Derived.Test.YtnfbeldiideonaaFixO
import Derived.Test.YtnfbeldiideonaaFixN
import Derived.Test.YtnfbeldiideonaaFixK
import Derived.Test.YtnfbeldiideonaaFixP
import Derived.Test.YtnfbeldiideonaaQt
set_option linter.unusedVariables false
set_option linter.unusedSimpArgs false
namespace Go.Proofs.Ytnfbeldiideonaa.VecW
open Go.RowKit Go.Sort FixM Base Num FixW FixV FixU FixT FixS FixO FixN FixK FixP Qb Qt

/-- a point, a way, a colour -/
structure V3 where
  x : Int
  y : Int
  z : Int
def V3.ok (a : V3) : Prop := In a.x ∧ In a.y ∧ In a.z
abbrev vecV (a : V3) : Value := .agg #[.int .i64 a.x, .int .i64 a.y, .int .i64 a.z]
def map2 (F : Int → Int → Int) (a b : V3) : V3 := ⟨F a.x b.x, F a.y b.y, F a.z b.z⟩

abbrev box3 (a : V3) : Obj := .cells #[.int .i64 a.x, .int .i64 a.y, .int .i64 a.z] 23
theorem cells3 {W : World} {g : Nat} {T : TypeId} {p q r : Value} (h : W.heap[g]? = some (.cells #[p, q, r] T)) :
    (∀ d os, (grow (redrawn W d) os).cell? ⟨g, 0, none⟩ = some p) ∧ (∀ d os, (grow (redrawn W d) os).cell? ⟨g, 1, none⟩ = some q) ∧ (∀ d os, (grow (redrawn W d) os).cell? ⟨g, 2, none⟩ = some r) := by
  refine ⟨fun d os => ?_, fun d os => ?_, fun d os => ?_⟩
  · exact cell_regrown (by rw [cell_of_row W g 0 _ _ _ h]; rfl) d os
  · exact cell_regrown (by rw [cell_of_row W g 1 _ _ _ h]; rfl) d os
  · exact cell_regrown (by rw [cell_of_row W g 2 _ _ _ h]; rfl) d os
theorem vec_size : (Try.prog.info? 23).map (·.size) = some 3 := by kernel_rfl
theorem ones3 (a b c : Int) : ∀ v ∈ (#[Value.int .i64 a, .int .i64 b, .int .i64 c] : Array Value).toList, v.oneCell' = true := by
  intro v hv; simp at hv; rcases hv with rfl | rfl | rfl <;> rfl
theorem store_vec {ops : Array Oper} {rest : List Oper} {o : Oper} {a : Act} {w : World} {Q : Exit → Act → World → Prop} (hgd : o.guard = none) (x y : Operand) (ho : o.op = .store 23 x y) (hd : o.dst = none)
    (g : Nat) (A B C : Int) (hx : a.eval x = .pointer (some ⟨g, 0, none⟩)) (hy : a.eval y = .agg #[.int .i64 A, .int .i64 B, .int .i64 C]) (p q r : Value) (hg : w.heap[g]? = some (.cells #[p, q, r] 23))
    (h : wpList Try.prog ops Q rest a (w.setRow g #[.int .i64 A, .int .i64 B, .int .i64 C])) : wpList Try.prog ops Q (o :: rest) a w :=
  wpList_store_arr hgd 23 x y ho g _ hx hy 23 _ hg vec_size rfl (ones3 _ _ _) hd h
/-- the blocks behind two boxes and a result -/
theorem alloc3_0 (w : World) (o0 o1 o2 : Obj) : (((w.alloc o0).alloc o1).alloc o2).heap[w.heap.size]? = some o0 := by
  rw [heap_alloc_old _ _ (by simp; omega), heap_alloc_old _ _ (by simp)]; exact heap_alloc_new _ _
theorem alloc3_1 (w : World) (o0 o1 o2 : Obj) : (((w.alloc o0).alloc o1).alloc o2).heap[w.heap.size + 1]? = some o1 := by
  rw [heap_alloc_old _ _ (by simp)]; have := heap_alloc_new (w.alloc o0) o1; simpa using this
theorem alloc3_2 (w : World) (o0 o1 o2 : Obj) : (((w.alloc o0).alloc o1).alloc o2).heap[w.heap.size + 1 + 1]? = some o2 := by
  have := heap_alloc_new ((w.alloc o0).alloc o1) o2; simpa using this
theorem enters {f : FuncId} {fn : Func} {c : Code} (hf : Try.prog.funcs[f]? = some fn) (hname : (fn.name == "runtime.NumGoroutine") = false) (hb : fn.body = some c) (args : Array Value) (w : World) : (callFunc f args).run Try.prog w = .ok (.enter f args) w := by
  have h1 : fn.name ≠ "runtime.NumGoroutine" := by simpa using hname
  simp [callFunc, hf, h1, hb, mark]
theorem alloc3_below (w : World) (o0 o1 o2 : Obj) : Below w.heap.size w (((w.alloc o0).alloc o1).alloc o2) := ((ext_alloc w o0).alloc (by simp) o1).alloc (by simp; omega) o2

set_option maxRecDepth 100000 in
set_option maxHeartbeats 2000000 in
theorem each_any (k : Nat) (cap : Array Value) (F : Int → Int → Int) (a b : V3) (ha : a.ok) (hb : b.ok) (w : World)
    (hen : ∀ args w, (callFunc k args).run Try.prog w = .ok (.enter k args) w)
    (hF : ∀ x y w', In x → In y → Below w.heap.size w w' → Calls Try.prog k (#[.int .i64 x, .int .i64 y] ++ cap) w' (fun e w'' => e = .returned (.int .i64 (F x y)) ∧ Below w'.heap.size w' w'')) :
    Calls Try.prog 56 #[vecV a, vecV b, .func (.func k) #[] cap] w fun e w' => e = .returned (.agg #[.int .i64 (F a.x b.x), .int .i64 (F a.y b.y), .int .i64 (F a.z b.z)]) ∧ Below w.heap.size w w' := by
  obtain ⟨ax, ay, az⟩ := a
  obtain ⟨bx, by', bz⟩ := b
  obtain ⟨ha1, ha2, ha3⟩ := ha
  obtain ⟨hb1, hb2, hb3⟩ := hb
  obtain ⟨W, hW⟩ : ∃ W, W = ((w.alloc (box3 ⟨ax, ay, az⟩)).alloc (box3 ⟨bx, by', bz⟩)).alloc (box3 ⟨0, 0, 0⟩) := ⟨_, rfl⟩
  have h0 : W.heap[w.heap.size]? = some (box3 ⟨ax, ay, az⟩) := by rw [hW]; exact alloc3_0 _ _ _ _
  have h1 : W.heap[w.heap.size + 1]? = some (box3 ⟨bx, by', bz⟩) := by rw [hW]; exact alloc3_1 _ _ _ _
  have h2 : W.heap[w.heap.size + 1 + 1]? = some (box3 ⟨0, 0, 0⟩) := by rw [hW]; exact alloc3_2 _ _ _ _
  have hBW : Below w.heap.size w W := by rw [hW]; exact alloc3_below _ _ _ _
  have f0 := qb (P := Try.prog) (W := W) (f := k) (fun w2 hb => hF ax bx w2 ha1 hb1 (hBW.trans (hb.mono hBW.size)))
  have f1 := qb (P := Try.prog) (W := W) (f := k) (fun w2 hb => hF ay by' w2 ha2 hb2 (hBW.trans (hb.mono hBW.size)))
  have f2 := qb (P := Try.prog) (W := W) (f := k) (fun w2 hb => hF az bz w2 ha3 hb3 (hBW.trans (hb.mono hBW.size)))
  obtain ⟨c0, c1, c2⟩ := cells3 h0
  obtain ⟨d0, d1, d2⟩ := cells3 h1
  have F0 := Lib.hid f0
  have F1 := Lib.hid f1
  have F2 := Lib.hid f2
  have H2 := Lib.hid h2
  have BW := Lib.hid hBW
  have HWW := Lib.hid hW
  clear hF f0 f1 f2 h0 h1 h2 hBW hW ha1 ha2 ha3 hb1 hb2 hb3
  go_enter Try.func56, Try.ntmps56
  go_wp2_with fail
  rw [← HWW.out]
  refine wp_region_below_tail 19 (by kernel_rfl) (by kernel_rfl) ?_
  simp only [List.take_succ_cons, List.take_zero, List.drop_succ_cons, List.drop_zero]
  repeat (go_big_quiet_step (first | (with_reducible exact F0.out _ _) | (with_reducible exact F1.out _ _) | (with_reducible exact F2.out _ _)))
  refine wpQuiet_nil ?_
  rintro _ ⟨⟨dq, osq⟩, rfl⟩
  refine wpList_store_arr rfl 23 (.tmp 6) (.tmp 25) rfl (w.heap.size + 1 + 1) #[.int .i64 (F ax bx), .int .i64 (F ay by'), .int .i64 (F az bz)] rfl rfl 23 _ (heap_regrown H2.out dq osq) vec_size rfl (ones3 _ _ _) rfl ?_
  have hb2 : Below w.heap.size w (grow (redrawn W dq) osq) := BW.out.trans ((below_regrown W dq osq).mono BW.out.size)
  have h3 := setRow_heap (grow (redrawn W dq) osq) (w.heap.size + 1 + 1) _ #[.int .i64 (F ax bx), .int .i64 (F ay by'), .int .i64 (F az bz)] _ _ (heap_regrown H2.out dq osq)
  have hb3 := below_setRow hb2 (show w.heap.size ≤ w.heap.size + 1 + 1 by omega) #[.int .i64 (F ax bx), .int .i64 (F ay by'), .int .i64 (F az bz)]
  have H3 := Lib.hid h3
  have HB3 := Lib.hid hb3
  clear h3 hb3 hb2 c0 c1 c2 d0 d1 d2
  generalize (grow (redrawn W dq) osq).setRow (w.heap.size + 1 + 1) #[.int .i64 (F ax bx), .int .i64 (F ay by'), .int .i64 (F az bz)] = w3 at *
  go_wp2_with fail
  refine bodyPost_ret (results_cell_row rfl _ _ (w.heap.size + 1 + 1) 23 _ _ _ rfl H3.out Try.underlying23 rfl vec_size) rfl ?_
  exact ⟨rfl, HB3.out⟩
end Go.Proofs.Ytnfbeldiideonaa.VecW
