/- From the form's own reading of an argument to this seat's words: a scene and a case by value. -/
import Derived.Test.YtnfbeldiideonaaOpenVec
import Derived.Test.YtnfbeldiideonaaLightD
set_option linter.unusedVariables false
set_option linter.unusedSimpArgs false
namespace Go.Proofs.Ytnfbeldiideonaa.OpenScn
open Go.RowKit Go.Deep Go.ChangeShapes Go.WideShapes Go.ChangeAt Base Go.Proofs.Ytnfbeldiideonaa.Row VecW FixM LightD

theorem part_of {H : Type} {enc : TypeId × Value → H} {W : World} {b0 : Nat} {sp : Nat → Bool} {hd : Bool} {t : TypeId} {fuel : Nat} {cs : List Value} {x : DataW H × List MemPlace} {fs : Array Field} (ht : Try.prog.underlying t = some (.struct fs)) (h : DataW.trod enc Try.prog W b0 sp hd fuel t cs = some x) :
    ∃ n, ∀ (i : Nat) (f : Field), fs[i]? = some f → ∃ y, DataW.trod enc Try.prog W b0 sp hd n f.type ((cs.drop f.offset).take (Try.prog.cellsOf f.type)) = some y := by
  obtain ⟨xs, n, _, _, _, hl, hf⟩ := DataW.trod_struct ht h
  refine ⟨n, fun i f hi => ?_⟩
  have hlt : i < xs.length := by rw [hl]; exact (Array.getElem?_eq_some_iff.1 hi).1
  exact ⟨xs[i], by rw [hf i f hi, List.getElem?_eq_getElem hlt]⟩
theorem cells_vec : Try.prog.cellsOf 23 = 3 := by kernel_rfl
theorem cells_i64 : Try.prog.cellsOf 2 = 1 := by kernel_rfl
theorem cells_int : Try.prog.cellsOf 3 = 1 := by kernel_rfl
theorem vec_of {H : Type} {enc : TypeId × Value → H} {W : World} {b0 : Nat} {sp : Nat → Bool} {hd : Bool} {fuel : Nat} {a b c : Value} {x : DataW H × List MemPlace} (h : DataW.trod enc Try.prog W b0 sp hd fuel 23 [a, b, c] = some x) :
    ∃ v : V3, v.ok ∧ a = .int .i64 v.x ∧ b = .int .i64 v.y ∧ c = .int .i64 v.z := by
  obtain ⟨n, hf⟩ := part_of Try.underlying23 h
  obtain ⟨y0, t0⟩ := hf 0 _ rfl
  obtain ⟨y1, t1⟩ := hf 1 _ rfl
  obtain ⟨y2, t2⟩ := hf 2 _ rfl
  simp only [cells_i64, List.drop_zero, List.drop_succ_cons, List.take_succ_cons, List.take_zero, List.getElem_toArray, List.getElem_cons_zero, List.getElem_cons_succ] at t0 t1 t2
  obtain ⟨z0, e0, _, w0⟩ := DataW.trod_int Try.underlying2 t0
  obtain ⟨z1, e1, _, w1⟩ := DataW.trod_int Try.underlying2 t1
  obtain ⟨z2, e2, _, w2⟩ := DataW.trod_int Try.underlying2 t2
  simp only [List.cons.injEq, and_true] at e0 e1 e2
  exact ⟨⟨z0, z1, z2⟩, ⟨wf_i64 w0, wf_i64 w1, wf_i64 w2⟩, e0, e1, e2⟩

theorem array21 {α : Type} {cs : Array α} (h : cs.size = 21) : ∃ c0 c1 c2 c3 c4 c5 c6 c7 c8 c9 c10 c11 c12 c13 c14 c15 c16 c17 c18 c19 c20, cs = #[c0, c1, c2, c3, c4, c5, c6, c7, c8, c9, c10, c11, c12, c13, c14, c15, c16, c17, c18, c19, c20] := by
  obtain ⟨l⟩ := cs
  match l, h with
  | [c0, c1, c2, c3, c4, c5, c6, c7, c8, c9, c10, c11, c12, c13, c14, c15, c16, c17, c18, c19, c20], _ => exact ⟨c0, c1, c2, c3, c4, c5, c6, c7, c8, c9, c10, c11, c12, c13, c14, c15, c16, c17, c18, c19, c20, rfl⟩
theorem array15 {α : Type} {cs : Array α} (h : cs.size = 15) : ∃ c0 c1 c2 c3 c4 c5 c6 c7 c8 c9 c10 c11 c12 c13 c14, cs = #[c0, c1, c2, c3, c4, c5, c6, c7, c8, c9, c10, c11, c12, c13, c14] := by
  obtain ⟨l⟩ := cs
  match l, h with
  | [c0, c1, c2, c3, c4, c5, c6, c7, c8, c9, c10, c11, c12, c13, c14], _ => exact ⟨c0, c1, c2, c3, c4, c5, c6, c7, c8, c9, c10, c11, c12, c13, c14, rfl⟩

def IsScn (w : World) (v : Value) : Prop := ∃ s : Scn, s.ok ∧ v = .agg s.row
/-- law21's case -/
structure Cse where
  x : Int
  y : Int
  a : Int
  b : Int
  d : V3
  n : V3
  k : Int
  t : Int
  i : Int
  u : Int
  v : Int
abbrev Cse.row (c : Cse) : Array Value := #[.int .i64 c.x, .int .i64 c.y, .int .i64 c.a, .int .i64 c.b, .int .i64 c.d.x, .int .i64 c.d.y, .int .i64 c.d.z, .int .i64 c.n.x, .int .i64 c.n.y, .int .i64 c.n.z, .int .u8 c.k, .int .i64 c.t, .int .i64 c.i, .int .i64 c.u, .int .i64 c.v]
structure Cse.ok (c : Cse) : Prop where
  x : In c.x
  y : In c.y
  a : In c.a
  b : In c.b
  d : c.d.ok
  n : c.n.ok
  t : In c.t
def IsCse (w : World) (v : Value) : Prop := ∃ c : Cse, c.ok ∧ v = .agg c.row
set_option maxRecDepth 100000 in
set_option maxHeartbeats 2000000 in
theorem open_scn {H : Type} {enc : TypeId × Value → H} {W : World} {r : Reach} {b0 : Nat} {v : Value} {d : DataW H} {p : List MemPlace}
    (hv : Value.okWide Try.prog W r b0 34 v) (h : DataW.Trod enc Try.prog W 0 (fun _ => true) true 34 v d p) : IsScn W v := by
  obtain ⟨cs, rfl, hsz⟩ := okWide_struct Try.underlying34 hv
  have hc : Try.prog.cellsOf 34 = 21 := by kernel_rfl
  rw [hc] at hsz
  obtain ⟨fuel, hf0⟩ := h
  obtain ⟨n, hf⟩ := part_of Try.underlying34 hf0
  clear hf0 hv hc
  obtain ⟨c0, c1, c2, c3, c4, c5, c6, c7, c8, c9, c10, c11, c12, c13, c14, c15, c16, c17, c18, c19, c20, rfl⟩ := array21 hsz
  clear hsz
  obtain ⟨y0, t0⟩ := hf 0 _ rfl
  obtain ⟨y1, t1⟩ := hf 1 _ rfl
  obtain ⟨y5, t5⟩ := hf 5 _ rfl
  obtain ⟨y6, t6⟩ := hf 6 _ rfl
  obtain ⟨y7, t7⟩ := hf 7 _ rfl
  obtain ⟨y8, t8⟩ := hf 8 _ rfl
  clear hf
  simp only [Value.cells, cells_i64, cells_int, cells_vec, List.drop_zero, List.drop_succ_cons, List.take_succ_cons, List.take_zero, List.getElem_toArray, List.getElem_cons_zero, List.getElem_cons_succ] at t0 t1 t5 t6 t7 t8
  obtain ⟨z0, e0, _, w0⟩ := DataW.trod_int Try.underlying3 t0
  obtain ⟨z1, e1, _, w1⟩ := DataW.trod_int Try.underlying3 t1
  obtain ⟨z8, e8, _, w8⟩ := DataW.trod_int Try.underlying2 t8
  obtain ⟨p5, o5, rfl, rfl, rfl⟩ := vec_of t5
  obtain ⟨p6, o6, rfl, rfl, rfl⟩ := vec_of t6
  obtain ⟨p7, o7, rfl, rfl, rfl⟩ := vec_of t7
  simp only [List.cons.injEq, and_true] at e0 e1 e8
  subst e0 e1 e8
  exact ⟨⟨z0, z1, c2, c3, c4, p5, p6, p7, z8, #[c15, c16, c17, c18, c19, c20]⟩, ⟨wf_i64 w0, wf_i64 w1, o5, o6, o7, wf_i64 w8⟩, rfl⟩
set_option maxRecDepth 100000 in
set_option maxHeartbeats 2000000 in
theorem open_cse {H : Type} {enc : TypeId × Value → H} {W : World} {r : Reach} {b0 : Nat} {v : Value} {d : DataW H} {p : List MemPlace}
    (hv : Value.okWide Try.prog W r b0 39 v) (h : DataW.Trod enc Try.prog W 0 (fun _ => true) true 39 v d p) : IsCse W v := by
  obtain ⟨cs, rfl, hsz⟩ := okWide_struct Try.underlying39 hv
  have hc : Try.prog.cellsOf 39 = 15 := by kernel_rfl
  have hck : Try.prog.cellsOf 35 = 1 := by kernel_rfl
  have hch : Try.prog.cellsOf 37 = 4 := by kernel_rfl
  rw [hc] at hsz
  obtain ⟨fuel, hf0⟩ := h
  obtain ⟨n, hf⟩ := part_of Try.underlying39 hf0
  clear hf0 hv hc
  obtain ⟨c0, c1, c2, c3, c4, c5, c6, c7, c8, c9, c10, c11, c12, c13, c14, rfl⟩ := array15 hsz
  clear hsz
  obtain ⟨y0, t0⟩ := hf 0 _ rfl
  obtain ⟨y1, t1⟩ := hf 1 _ rfl
  obtain ⟨y2, t2⟩ := hf 2 _ rfl
  obtain ⟨y3, t3⟩ := hf 3 _ rfl
  obtain ⟨y4, t4⟩ := hf 4 _ rfl
  obtain ⟨y5, t5⟩ := hf 5 _ rfl
  obtain ⟨y6, t6⟩ := hf 6 _ rfl
  obtain ⟨y7, t7⟩ := hf 7 _ rfl
  clear hf
  simp only [Value.cells, cells_i64, cells_int, cells_vec, hck, hch, List.drop_zero, List.drop_succ_cons, List.take_succ_cons, List.take_zero, List.getElem_toArray, List.getElem_cons_zero, List.getElem_cons_succ] at t0 t1 t2 t3 t4 t5 t6 t7
  obtain ⟨z0, e0, _, w0⟩ := DataW.trod_int Try.underlying3 t0
  obtain ⟨z1, e1, _, w1⟩ := DataW.trod_int Try.underlying3 t1
  obtain ⟨z2, e2, _, w2⟩ := DataW.trod_int Try.underlying2 t2
  obtain ⟨z3, e3, _, w3⟩ := DataW.trod_int Try.underlying2 t3
  obtain ⟨p4, o4, rfl, rfl, rfl⟩ := vec_of t4
  obtain ⟨p5, o5, rfl, rfl, rfl⟩ := vec_of t5
  obtain ⟨z6, e6, _, w6⟩ := DataW.trod_int Try.underlying35 t6
  obtain ⟨m, hg⟩ := part_of Try.underlying37 t7
  obtain ⟨x0, s0⟩ := hg 0 _ rfl
  obtain ⟨x1, s1⟩ := hg 1 _ rfl
  obtain ⟨x2, s2⟩ := hg 2 _ rfl
  obtain ⟨x3, s3⟩ := hg 3 _ rfl
  simp only [cells_i64, cells_int, List.drop_zero, List.drop_succ_cons, List.take_succ_cons, List.take_zero, List.getElem_toArray, List.getElem_cons_zero, List.getElem_cons_succ] at s0 s1 s2 s3
  obtain ⟨q0, f0, _, v0⟩ := DataW.trod_int Try.underlying2 s0
  obtain ⟨q1, f1, _, v1⟩ := DataW.trod_int Try.underlying3 s1
  obtain ⟨q2, f2, _, v2⟩ := DataW.trod_int Try.underlying2 s2
  obtain ⟨q3, f3, _, v3⟩ := DataW.trod_int Try.underlying2 s3
  simp only [List.cons.injEq, and_true] at e0 e1 e2 e3 e6 f0 f1 f2 f3
  subst e0 e1 e2 e3 e6 f0 f1 f2 f3
  exact ⟨⟨z0, z1, z2, z3, p4, p5, z6, q0, q1, q2, q3⟩, ⟨wf_i64 w0, wf_i64 w1, wf_i64 w2, wf_i64 w3, o4, o5, wf_i64 v0⟩, rfl⟩
end Go.Proofs.Ytnfbeldiideonaa.OpenScn
