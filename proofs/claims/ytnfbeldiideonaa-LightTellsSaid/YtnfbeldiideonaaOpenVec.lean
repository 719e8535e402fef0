/- From the form's own reading of an argument to this seat's words: a point by value. -/
import Derived.Test.YtnfbeldiideonaaRows
import Derived.Test.YtnfbeldiideonaaRow
import Derived.Test.YtnfbeldiideonaaVecW
import Derived.Deep.Strs
set_option linter.unusedVariables false
set_option linter.unusedSimpArgs false
namespace Go.Proofs.Ytnfbeldiideonaa.OpenVec
open Go.RowKit Go.Deep Go.ChangeShapes Go.WideShapes Go.ChangeAt Base Go.Proofs.Ytnfbeldiideonaa.Row VecW FixM

def IsVec (w : World) (v : Value) : Prop := ∃ a : V3, a.ok ∧ v = vecV a
set_option maxRecDepth 100000 in
theorem open_vec {H : Type} {enc : TypeId × Value → H} {W : World} {r : Reach} {b0 : Nat} {v : Value} {d : DataW H} {p : List MemPlace}
    (hv : Value.okWide Try.prog W r b0 23 v) (h : DataW.Trod enc Try.prog W 0 (fun _ => true) true 23 v d p) : IsVec W v := by
  obtain ⟨cs, rfl, hsz⟩ := okWide_struct Try.underlying23 hv
  have hc : Try.prog.cellsOf 23 = 3 := by kernel_rfl
  have hc1 : Try.prog.cellsOf 2 = 1 := by kernel_rfl
  rw [hc] at hsz
  obtain ⟨fuel, hf⟩ := h
  obtain ⟨y0, y1, y2, n', _, hlen, t0, t1, t2⟩ := trod_struct3 Try.underlying23 hf
  have hl : cs.toList.length = 3 := by simpa using hsz
  have hcells : (Value.agg cs).cells.toList = cs.toList := rfl
  obtain ⟨l⟩ := cs
  match l, hl with
  | [v0, v1, v2], _ =>
    simp only [Value.cells, hc1, List.drop_zero, List.drop_succ_cons, List.take_succ_cons, List.take_zero] at t0 t1 t2
    obtain ⟨z0, e0, _, w0⟩ := DataW.trod_int Try.underlying2 t0
    obtain ⟨z1, e1, _, w1⟩ := DataW.trod_int Try.underlying2 t1
    obtain ⟨z2, e2, _, w2⟩ := DataW.trod_int Try.underlying2 t2
    simp only [List.cons.injEq, and_true] at e0 e1 e2
    subst e0 e1 e2
    exact ⟨⟨z0, z1, z2⟩, ⟨wf_i64 w0, wf_i64 w1, wf_i64 w2⟩, rfl⟩
end Go.Proofs.Ytnfbeldiideonaa.OpenVec
