/- From the form's own reading of an argument to this seat's words: rays, boxes, balls and hits by value. -/
import Derived.Test.YtdaokkgenfpmhaaOp
import Derived.Test.YtdaokkgenfpmhaaHitM
set_option linter.unusedVariables false
set_option linter.unusedSimpArgs false
namespace Go.Proofs.Ytdaokkgenfpmhaa.OpenRay
open Go.RowKit Go.Deep Go.ChangeShapes Go.WideShapes Go.ChangeAt Base Go.Proofs.Ytdaokkgenfpmhaa.Row VecW FixM MeshM Rec OpenMesh HitM MeshP
section
variable {H : Type} {enc : TypeId × Value → H} {W : World} {b0 : Nat} {sp : Nat → Bool} {hd : Bool}
theorem dec_two {T : TypeId} {fs : Array Field} (hu : Try.prog.underlying T = some (.struct fs)) (f0 f1 : Field) (h0 : fs[0]? = some f0) (h1 : fs[1]? = some f1) (e0 : f0.type = 23 ∧ f0.offset = 0) (e1 : f1.type = 23 ∧ f1.offset = 3)
    (fuel : Nat) (cs : List Value) (x : DataW H × List MemPlace) (hl : cs.length = 6) (h : DataW.trod enc Try.prog W b0 sp hd fuel T cs = some x) : ∃ a b : V3, a.ok ∧ b.ok ∧ cs = [.int .i64 a.x, .int .i64 a.y, .int .i64 a.z, .int .i64 b.x, .int .i64 b.y, .int .i64 b.z] := by
  match cs, hl with
  | [a, b, c, d, e, f], _ =>
    obtain ⟨n, hf⟩ := part_of hu h
    obtain ⟨y0, t0⟩ := hf 0 f0 h0
    obtain ⟨y1, t1⟩ := hf 1 f1 h1
    rw [e0.1, e0.2] at t0
    rw [e1.1, e1.2] at t1
    simp only [cells_vec, List.drop_zero, List.drop_succ_cons, List.take_succ_cons, List.take_zero] at t0 t1
    obtain ⟨u, hu, eu⟩ := dec_vec _ _ _ rfl t0
    obtain ⟨v, hv, ev⟩ := dec_vec _ _ _ rfl t1
    simp only [MeshA.enc3, List.cons.injEq, and_true] at eu ev
    exact ⟨u, v, hu, hv, by rw [eu.1, eu.2.1, eu.2.2, ev.1, ev.2.1, ev.2.2]⟩
theorem dec_hit (fuel : Nat) (cs : List Value) (x : DataW H × List MemPlace) (hl : cs.length = 4) (h : DataW.trod enc Try.prog W b0 sp hd fuel 38 cs = some x) : ∃ v : Ht, (In v.t ∧ In v.i ∧ In v.u ∧ In v.v) ∧ cs = [.int .i64 v.t, .int .i64 v.i, .int .i64 v.u, .int .i64 v.v] := by
  match cs, hl with
  | [a, b, c, d], _ =>
    obtain ⟨n, hf⟩ := part_of Try.underlying38 h
    obtain ⟨y0, t0⟩ := hf 0 _ rfl
    obtain ⟨y1, t1⟩ := hf 1 _ rfl
    obtain ⟨y2, t2⟩ := hf 2 _ rfl
    obtain ⟨y3, t3⟩ := hf 3 _ rfl
    simp only [cells_int, cells_i64, List.drop_zero, List.drop_succ_cons, List.take_succ_cons, List.take_zero, List.getElem_toArray, List.getElem_cons_zero, List.getElem_cons_succ] at t0 t1 t2 t3
    obtain ⟨z0, e0, _, w0⟩ := DataW.trod_int Try.underlying2 t0
    obtain ⟨z1, e1, _, w1⟩ := DataW.trod_int Try.underlying3 t1
    obtain ⟨z2, e2, _, w2⟩ := DataW.trod_int Try.underlying2 t2
    obtain ⟨z3, e3, _, w3⟩ := DataW.trod_int Try.underlying2 t3
    simp only [List.cons.injEq, and_true] at e0 e1 e2 e3
    exact ⟨⟨z0, z1, z2, z3⟩, ⟨wf_i64 w0, wf_i64 w1, wf_i64 w2, wf_i64 w3⟩, by rw [e0, e1, e2, e3]⟩
end
theorem agg_of {cs : Array Value} {l : List Value} (h : cs.toList = l) : Value.agg cs = .agg l.toArray := by
  rw [← h]
def IsRay (w : World) (v : Value) : Prop := ∃ r : Ry, r.ok ∧ v = rayV r
def IsBox (w : World) (v : Value) : Prop := ∃ b : Bx, HitM.Bx.ok b ∧ v = boxV b
def IsBall (w : World) (v : Value) : Prop := ∃ b : B4, (b.c.ok ∧ In b.r) ∧ v = .agg #[.int .i64 b.c.x, .int .i64 b.c.y, .int .i64 b.c.z, .int .i64 b.r]
def IsHit (w : World) (v : Value) : Prop := ∃ h : Ht, (In h.t ∧ In h.i ∧ In h.u ∧ In h.v) ∧ v = hitV h
set_option maxRecDepth 100000 in
theorem open_ray {H : Type} {enc : TypeId × Value → H} {W : World} {r : Reach} {b0 : Nat} {v : Value} {d : DataW H} {p : List MemPlace}
    (hv : Value.okWide Try.prog W r b0 25 v) (h : DataW.Trod enc Try.prog W 0 (fun _ => true) true 25 v d p) : IsRay W v := by
  obtain ⟨cs, rfl, hsz⟩ := okWide_struct Try.underlying25 hv
  have hc : Try.prog.cellsOf 25 = 6 := by kernel_rfl
  rw [hc] at hsz
  obtain ⟨fuel, hf⟩ := h
  have hl : cs.toList.length = 6 := by simpa using hsz
  have hcells : (Value.agg cs).cells.toList = cs.toList := rfl
  rw [hcells] at hf
  obtain ⟨a, b, ha, hb, e⟩ := dec_two Try.underlying25 _ _ rfl rfl ⟨rfl, rfl⟩ ⟨rfl, rfl⟩ _ _ _ hl hf
  exact ⟨⟨a, b⟩, ⟨ha, hb⟩, agg_of e⟩
set_option maxRecDepth 100000 in
theorem open_box {H : Type} {enc : TypeId × Value → H} {W : World} {r : Reach} {b0 : Nat} {v : Value} {d : DataW H} {p : List MemPlace}
    (hv : Value.okWide Try.prog W r b0 56 v) (h : DataW.Trod enc Try.prog W 0 (fun _ => true) true 56 v d p) : IsBox W v := by
  obtain ⟨cs, rfl, hsz⟩ := okWide_struct Try.underlying56 hv
  have hc : Try.prog.cellsOf 56 = 6 := by kernel_rfl
  rw [hc] at hsz
  obtain ⟨fuel, hf⟩ := h
  have hl : cs.toList.length = 6 := by simpa using hsz
  have hcells : (Value.agg cs).cells.toList = cs.toList := rfl
  rw [hcells] at hf
  obtain ⟨a, b, ha, hb, e⟩ := dec_two Try.underlying56 _ _ rfl rfl ⟨rfl, rfl⟩ ⟨rfl, rfl⟩ _ _ _ hl hf
  exact ⟨⟨a, b⟩, ⟨ha, hb⟩, agg_of e⟩
set_option maxRecDepth 100000 in
theorem open_ball {H : Type} {enc : TypeId × Value → H} {W : World} {r : Reach} {b0 : Nat} {v : Value} {d : DataW H} {p : List MemPlace}
    (hv : Value.okWide Try.prog W r b0 71 v) (h : DataW.Trod enc Try.prog W 0 (fun _ => true) true 71 v d p) : IsBall W v := by
  obtain ⟨cs, rfl, hsz⟩ := okWide_struct Try.underlying71 hv
  have hc : Try.prog.cellsOf 71 = 4 := by kernel_rfl
  rw [hc] at hsz
  obtain ⟨fuel, hf⟩ := h
  have hl : cs.toList.length = 4 := by simpa using hsz
  have hcells : (Value.agg cs).cells.toList = cs.toList := rfl
  rw [hcells] at hf
  obtain ⟨b, hb, e⟩ := dec_ball _ _ _ hl hf
  exact ⟨b, hb, agg_of e⟩
set_option maxRecDepth 100000 in
theorem open_hit {H : Type} {enc : TypeId × Value → H} {W : World} {r : Reach} {b0 : Nat} {v : Value} {d : DataW H} {p : List MemPlace}
    (hv : Value.okWide Try.prog W r b0 38 v) (h : DataW.Trod enc Try.prog W 0 (fun _ => true) true 38 v d p) : IsHit W v := by
  obtain ⟨cs, rfl, hsz⟩ := okWide_struct Try.underlying38 hv
  have hc : Try.prog.cellsOf 38 = 4 := by kernel_rfl
  rw [hc] at hsz
  obtain ⟨fuel, hf⟩ := h
  have hl : cs.toList.length = 4 := by simpa using hsz
  have hcells : (Value.agg cs).cells.toList = cs.toList := rfl
  rw [hcells] at hf
  obtain ⟨b, hb, e⟩ := dec_hit _ _ _ hl hf
  exact ⟨b, hb, agg_of e⟩
end Go.Proofs.Ytdaokkgenfpmhaa.OpenRay
