/- Points in the world: what all walks of points share. -/
import Derived.Test.YtdmmjmdnljhooaaRows
import Derived.Test.YtdmmjmdnljhooaaFixM
import Derived.Test.YtdmmjmdnljhooaaNum
import Derived.Test.YtdmmjmdnljhooaaBase
import Derived.Test.YtdmmjmdnljhooaaQt
set_option linter.unusedVariables false
set_option linter.unusedSimpArgs false
namespace Go.Proofs.Ytdmmjmdnljhooaa.VecW
open Go.RowKit Go.Sort FixM Base Num Qb Qt

/-- a point, a way, a colour -/
structure V3 where
  x : Int
  y : Int
  z : Int
def V3.ok (a : V3) : Prop := In a.x ∧ In a.y ∧ In a.z
abbrev vecV (a : V3) : Value := .agg #[.int .i64 a.x, .int .i64 a.y, .int .i64 a.z]
def map2 (F : Int → Int → Int) (a b : V3) : V3 := ⟨F a.x b.x, F a.y b.y, F a.z b.z⟩

abbrev box3 (a : V3) : Obj := .cells #[.int .i64 a.x, .int .i64 a.y, .int .i64 a.z] 23
theorem cells3 {W : World} {g : Nat} {T : TypeId} {p q r : Value} (h : W.heap[g]? = some (.cells #[p, q, r] T)) :
    (∀ d os, (grow (redrawn W d) os).cell? ⟨g, 0, none⟩ = some p) ∧ (∀ d os, (grow (redrawn W d) os).cell? ⟨g, 1, none⟩ = some q) ∧ (∀ d os, (grow (redrawn W d) os).cell? ⟨g, 2, none⟩ = some r) := by
  refine ⟨fun d os => ?_, fun d os => ?_, fun d os => ?_⟩
  · exact cell_regrown (by rw [cell_of_row W g 0 _ _ _ h]; rfl) d os
  · exact cell_regrown (by rw [cell_of_row W g 1 _ _ _ h]; rfl) d os
  · exact cell_regrown (by rw [cell_of_row W g 2 _ _ _ h]; rfl) d os
theorem vec_size : (Try.prog.info? 23).map (·.size) = some 3 := by kernel_rfl
theorem ones3 (a b c : Int) : ∀ v ∈ (#[Value.int .i64 a, .int .i64 b, .int .i64 c] : Array Value).toList, v.oneCell' = true := by
  intro v hv; simp at hv; rcases hv with rfl | rfl | rfl <;> rfl
theorem store_vec {ops : Array Oper} {rest : List Oper} {o : Oper} {a : Act} {w : World} {Q : Exit → Act → World → Prop} (hgd : o.guard = none) (x y : Operand) (ho : o.op = .store 23 x y) (hd : o.dst = none)
    (g : Nat) (A B C : Int) (hx : a.eval x = .pointer (some ⟨g, 0, none⟩)) (hy : a.eval y = .agg #[.int .i64 A, .int .i64 B, .int .i64 C]) (p q r : Value) (hg : w.heap[g]? = some (.cells #[p, q, r] 23))
    (h : wpList Try.prog ops Q rest a (w.setRow g #[.int .i64 A, .int .i64 B, .int .i64 C])) : wpList Try.prog ops Q (o :: rest) a w :=
  wpList_store_arr hgd 23 x y ho g _ hx hy 23 _ hg vec_size rfl (ones3 _ _ _) hd h
/-- the blocks behind two boxes and a result -/
theorem alloc3_0 (w : World) (o0 o1 o2 : Obj) : (((w.alloc o0).alloc o1).alloc o2).heap[w.heap.size]? = some o0 := by
  rw [heap_alloc_old _ _ (by simp; omega), heap_alloc_old _ _ (by simp)]; exact heap_alloc_new _ _
theorem alloc3_1 (w : World) (o0 o1 o2 : Obj) : (((w.alloc o0).alloc o1).alloc o2).heap[w.heap.size + 1]? = some o1 := by
  rw [heap_alloc_old _ _ (by simp)]; have := heap_alloc_new (w.alloc o0) o1; simpa using this
theorem alloc3_2 (w : World) (o0 o1 o2 : Obj) : (((w.alloc o0).alloc o1).alloc o2).heap[w.heap.size + 1 + 1]? = some o2 := by
  have := heap_alloc_new ((w.alloc o0).alloc o1) o2; simpa using this
theorem enters {f : FuncId} {fn : Func} {c : Code} (hf : Try.prog.funcs[f]? = some fn) (hname : (fn.name == "runtime.NumGoroutine") = false) (hb : fn.body = some c) (args : Array Value) (w : World) : (callFunc f args).run Try.prog w = .ok (.enter f args) w := by
  have h1 : fn.name ≠ "runtime.NumGoroutine" := by simpa using hname
  simp [callFunc, hf, h1, hb, mark]
theorem alloc3_below (w : World) (o0 o1 o2 : Obj) : Below w.heap.size w (((w.alloc o0).alloc o1).alloc o2) := ((ext_alloc w o0).alloc (by simp) o1).alloc (by simp; omega) o2

end Go.Proofs.Ytdmmjmdnljhooaa.VecW
namespace Go.Proofs.Ytdmmjmdnljhooaa.VecV
open Go.RowKit Go.Sort FixM Base Num Qb Qt VecW
def VTo (v : Value) (w : World) (e : Ending) (w' : World) : Prop := e = .returned v ∧ Below w.heap.size w w'
theorem same_below {f : FuncId} {args : Array Value} {w : World} {v : Value} (h : Calls Try.prog f args w (fun e w' => e = .returned v ∧ w = w')) : Calls Try.prog f args w (VTo v w) :=
  h.mono fun _ _ h => ⟨h.1, by rw [← h.2]; exact Below.refl _ _⟩
end Go.Proofs.Ytdmmjmdnljhooaa.VecV
namespace Go.Proofs.Ytdmmjmdnljhooaa.VecU
open Go.RowKit Go.Sort FixM Base Num Qb Qt VecW VecV
theorem alloc2_0 (w : World) (o0 o1 : Obj) : ((w.alloc o0).alloc o1).heap[w.heap.size]? = some o0 := by
  rw [heap_alloc_old _ _ (by simp)]; exact heap_alloc_new _ _
theorem alloc2_1 (w : World) (o0 o1 : Obj) : ((w.alloc o0).alloc o1).heap[w.heap.size + 1]? = some o1 := by
  have := heap_alloc_new (w.alloc o0) o1; simpa using this
theorem alloc2_below (w : World) (o0 o1 : Obj) : Below w.heap.size w ((w.alloc o0).alloc o1) := (ext_alloc w o0).alloc (by simp) o1
end Go.Proofs.Ytdmmjmdnljhooaa.VecU
namespace Go.Proofs.Ytdmmjmdnljhooaa.LightQ
open Go.RowKit Go.Sort FixM Base Num Qb Qt VecW VecV VecU
theorem put3_row (w : World) (a b c : Int) : ((w.alloc (box3 ⟨0, 0, 0⟩)).setRow w.heap.size #[.int .i64 a, .int .i64 b, .int .i64 c]).heap[w.heap.size]? = some (box3 ⟨a, b, c⟩) :=
  setRow_heap (w.alloc (box3 ⟨0, 0, 0⟩)) w.heap.size _ #[.int .i64 a, .int .i64 b, .int .i64 c] _ _ (heap_alloc_new _ _)
theorem put3_ext (w : World) (a b c : Int) : Below w.heap.size w ((w.alloc (box3 ⟨0, 0, 0⟩)).setRow w.heap.size #[.int .i64 a, .int .i64 b, .int .i64 c]) :=
  below_setRow (ext_alloc w (box3 ⟨0, 0, 0⟩)) (Nat.le_refl _) _
theorem cells_now {W : World} {g : Nat} {T : TypeId} {p q r : Value} (h : W.heap[g]? = some (.cells #[p, q, r] T)) :
    W.cell? ⟨g, 0, none⟩ = some p ∧ W.cell? ⟨g, 1, none⟩ = some q ∧ W.cell? ⟨g, 2, none⟩ = some r := by
  refine ⟨?_, ?_, ?_⟩
  · rw [cell_of_row W g 0 _ _ _ h]; rfl
  · rw [cell_of_row W g 1 _ _ _ h]; rfl
  · rw [cell_of_row W g 2 _ _ _ h]; rfl
end Go.Proofs.Ytdmmjmdnljhooaa.LightQ
namespace Go.Proofs.Ytdmmjmdnljhooaa.LightC
open Go.RowKit Go.Sort FixM Base Num Qb Qt VecW VecV VecU
theorem cell_all {W : World} {g : Nat} {T : TypeId} {row : Array Value} (h : W.heap[g]? = some (.cells row T)) (k : Nat) (v : Value) (hv : row[k]? = some v) : ∀ d os, (grow (redrawn W d) os).cell? ⟨g, k, none⟩ = some v :=
  fun d os => cell_regrown (by rw [cell_of_row W g k _ _ _ h]; exact hv) d os
end Go.Proofs.Ytdmmjmdnljhooaa.LightC
