/- The steps of the region of Build that clones the mesh. -/
import Derived.Test.YtdaokkgenfpmhaaBvhC
set_option linter.unusedVariables false
set_option linter.unusedSimpArgs false
namespace Go.Proofs.Ytdaokkgenfpmhaa.BvhD
open Go Go.RowKit Go.Sort Go.Lib FixM Base Num FixW Qb Qt Qa Qf Qr Qz VecW VecV VecU LightQ LightC MeshM Rec MeshA MeshD MeshP HitM HitX BvhM BvhA BvhB BvhC
theorem build_run {P : Program} {e : Operand → Value} {o : Oper} {t : TypeId} {parts : Array (Nat × Operand)} (ho : o.op = .build t parts) {r : Array Value} (h : P.built t (parts.map fun (i, x) => (i, e x)).toList = some r) (w : World) : (execOp e o).run P w = .ok (.value (.agg r)) w := by
  unfold execOp
  simp only [ho, Sem.run_bind, run_build w t _ r h, Result.andThen_ok, Sem.run_pure]
theorem assign_run {P : Program} {e : Operand → Value} {o : Oper} {x : Operand} (ho : o.op = .assign x) (w : World) : (execOp e o).run P w = .ok (.value (e x)) w := by
  simp [execOp, ho, go_sem]
theorem ev_const (b : Act) (v : Value) : b.eval (.const v) = v := rfl
abbrev trow (v0 v1 v2 : Value) : Array Value := #[.bool true, v0, v1, v2, .slice none 0 0, .slice none 0 0, .int .i64 0]
/-- a new tree over its own mesh -/
def TreeNew (W : World) (m : Msh) (w : World) (v : Value) : Prop := ∃ W1 v0 v1 v2, Below W.heap.size W W1 ∧ IsMesh W1 (.agg #[v0, v1, v2]) m ∧ v = .pointer (some ⟨W1.heap.size, 0, none⟩) ∧ Below (W1.heap.size + 1) (W1.alloc (.cells (trow v0 v1 v2) 35)) w
def phiB (W : World) (gP : Nat) (s0 s1 s2 : Value) (m : Msh) : Nat → World → Value → Prop
  | 0, _, v => v = .pointer (some ⟨gP, 0, none⟩)
  | 1, _, v => v = s0
  | 2, w, v => ∃ a n cap, v = .slice a n cap ∧ Recs 3 enc3 w v m.ps
  | 3, _, v => v = .pointer (some ⟨gP, 1, none⟩)
  | 4, _, v => v = s1
  | 5, w, v => ∃ a n cap, v = .slice a n cap ∧ Recs 3 enc3 w v m.ts
  | 6, _, v => v = .pointer (some ⟨gP, 2, none⟩)
  | 7, _, v => v = s2
  | 8, w, v => ∃ a n cap, v = .slice a n cap ∧ Recs 4 enc4 w v m.bs
  | 9, w, v => ∃ a0 n0 c0 a1 n1 c1 a2 n2 c2, v = .agg #[.slice a0 n0 c0, .slice a1 n1 c1, .slice a2 n2 c2] ∧ IsMesh w v m
  | 10, w, v => ∃ a0 n0 c0 a1 n1 c1 a2 n2 c2, v = .agg (trow (.slice a0 n0 c0) (.slice a1 n1 c1) (.slice a2 n2 c2)) ∧ IsMesh w (.agg #[.slice a0 n0 c0, .slice a1 n1 c1, .slice a2 n2 c2]) m
  | _, w, v => TreeNew W m w v
theorem TreeNew.below {W w w' : World} {m : Msh} {v : Value} (h : TreeNew W m w v) (hb : Below w.heap.size w w') : TreeNew W m w' v := by
  obtain ⟨W1, v0, v1, v2, h1, h2, h3, h4⟩ := h
  exact ⟨W1, v0, v1, v2, h1, h2, h3, h4.trans (hb.mono (by have := h4.size; simpa using this))⟩
theorem phiB_mono (W : World) (gP : Nat) (s0 s1 s2 : Value) (m : Msh) (k : Nat) (v : Value) (w1 w2 : World) (h : phiB W gP s0 s1 s2 m k w1 v) (hb : Below w1.heap.size w1 w2) : phiB W gP s0 s1 s2 m k w2 v := by
  match k with
  | 0 => exact h
  | 1 => exact h
  | 2 => obtain ⟨a, n, c, e, h⟩ := h; exact ⟨a, n, c, e, h.below hb (Nat.le_refl _)⟩
  | 3 => exact h
  | 4 => exact h
  | 5 => obtain ⟨a, n, c, e, h⟩ := h; exact ⟨a, n, c, e, h.below hb (Nat.le_refl _)⟩
  | 6 => exact h
  | 7 => exact h
  | 8 => obtain ⟨a, n, c, e, h⟩ := h; exact ⟨a, n, c, e, h.below hb (Nat.le_refl _)⟩
  | 9 => obtain ⟨a0, n0, c0, a1, n1, c1, a2, n2, c2, e, h⟩ := h; exact ⟨a0, n0, c0, a1, n1, c1, a2, n2, c2, e, h.below hb⟩
  | 10 => obtain ⟨a0, n0, c0, a1, n1, c1, a2, n2, c2, e, h⟩ := h; exact ⟨a0, n0, c0, a1, n1, c1, a2, n2, c2, e, h.below hb⟩
  | k + 11 => exact TreeNew.below h hb
theorem box_run (w : World) (a0 : Option Addr) (n0 c0 : Nat) (a1 : Option Addr) (n1 c1 : Nat) (a2 : Option Addr) (n2 c2 : Nat) : (Instr.box 35 (.agg (trow (.slice a0 n0 c0) (.slice a1 n1 c1) (.slice a2 n2 c2)))).run Try.prog w = .ok (.pointer (some ⟨w.heap.size, 0, none⟩)) (w.alloc (.cells (trow (.slice a0 n0 c0) (.slice a1 n1 c1) (.slice a2 n2 c2)) 35)) := by kernel_rfl
theorem box_run2 {P : Program} {e : Operand → Value} {o : Oper} {T : TypeId} {x : Operand} (ho : o.op = .box T x) {u : Value} {w w' : World} (h : (Instr.box T (e x)).run P w = .ok u w') : (execOp e o).run P w = .ok (.value u) w' := by
  simp [execOp, ho, h, Result.andThen]
theorem fa0_run {e : Operand → Value} {o : Oper} {x : Operand} (ho : o.op = .fieldAddr 31 x 0) (g : Nat) (hv : e x = .pointer (some ⟨g, 0, none⟩)) (w : World) : (execOp e o).run Try.prog w = .ok (.value (.pointer (some ⟨g, 0, none⟩))) w := by
  unfold execOp
  simp only [ho, hv]
  kernel_rfl
theorem fa1_run {e : Operand → Value} {o : Oper} {x : Operand} (ho : o.op = .fieldAddr 31 x 1) (g : Nat) (hv : e x = .pointer (some ⟨g, 0, none⟩)) (w : World) : (execOp e o).run Try.prog w = .ok (.value (.pointer (some ⟨g, 1, none⟩))) w := by
  unfold execOp
  simp only [ho, hv]
  kernel_rfl
theorem fa2_run {e : Operand → Value} {o : Oper} {x : Operand} (ho : o.op = .fieldAddr 31 x 2) (g : Nat) (hv : e x = .pointer (some ⟨g, 0, none⟩)) (w : World) : (execOp e o).run Try.prog w = .ok (.value (.pointer (some ⟨g, 2, none⟩))) w := by
  unfold execOp
  simp only [ho, hv]
  kernel_rfl
theorem agg_v (w : World) : (isAgg 27).run Try.prog w = .ok false w := by kernel_rfl
theorem ldv_run {e : Operand → Value} {o : Oper} {x : Operand} (ho : o.op = .load 27 x) (g k : Nat) (hx : e x = .pointer (some ⟨g, k, none⟩)) {w : World} {v : Value} (hc : w.cell? ⟨g, k, none⟩ = some v) : (execOp e o).run Try.prog w = .ok (.value v) w := by
  unfold execOp
  simp [ho, hx, hc, agg_v, go_sem]
theorem agg_t (w : World) : (isAgg 28).run Try.prog w = .ok false w := by kernel_rfl
theorem ldt_run {e : Operand → Value} {o : Oper} {x : Operand} (ho : o.op = .load 28 x) (g k : Nat) (hx : e x = .pointer (some ⟨g, k, none⟩)) {w : World} {v : Value} (hc : w.cell? ⟨g, k, none⟩ = some v) : (execOp e o).run Try.prog w = .ok (.value v) w := by
  unfold execOp
  simp [ho, hx, hc, agg_t, go_sem]
theorem agg_b (w : World) : (isAgg 29).run Try.prog w = .ok false w := by kernel_rfl
theorem ldb_run {e : Operand → Value} {o : Oper} {x : Operand} (ho : o.op = .load 29 x) (g k : Nat) (hx : e x = .pointer (some ⟨g, k, none⟩)) {w : World} {v : Value} (hc : w.cell? ⟨g, k, none⟩ = some v) : (execOp e o).run Try.prog w = .ok (.value v) w := by
  unfold execOp
  simp [ho, hx, hc, agg_b, go_sem]
theorem ints : NumSlice Try.prog 33 3 .i64 8 := numSlice Try.underlying33 (by kernel_rfl)
/-- the boxes and the order under way -/
structure Lp (W0 wr : World) (base gM gT : Nat) (vb vo v0 v1 v2 : Value) (mo : Int) (bx : List Bx) (l : List Nat) : Prop where
  m : wr.heap[gM]? = some (.cells #[.pointer (some ⟨gT, 0, none⟩), vb, .int .i64 0, .int .i64 mo] 75)
  t : wr.heap[gT]? = some (.cells #[.bool true, v0, v1, v2, .slice none 0 0, vo, .int .i64 0] 35)
  b : RecsOwn 6 encB 56 base wr vb bx
  o : Own .i64 9223372036854775808 3 base wr vo l
  hb : Below base W0 wr
  low : base ≤ gM ∧ base ≤ gT ∧ gM ≠ gT ∧ base ≤ wr.heap.size
  nb : ∀ g, vb.ownBlock = some g → g ≠ gM ∧ g ≠ gT ∧ vo.ownBlock ≠ some g
  no : ∀ g, vo.ownBlock = some g → g ≠ gM ∧ g ≠ gT
section
variable {W0 wr w' w1 : World} {base gM gT : Nat} {vb vo v0 v1 v2 v' : Value} {mo : Int} {bx : List Bx} {l k : List Nat} {q : Bx}
theorem Lp.below (h : Lp W0 wr base gM gT vb vo v0 v1 v2 mo bx l) (hb : Below wr.heap.size wr w') : Lp W0 w' base gM gT vb vo v0 v1 v2 mo bx l where
  m := vec_step h.m hb
  t := vec_step h.t hb
  b := h.b.below hb (Nat.le_refl _)
  o := h.o.below hb (Nat.le_refl _)
  hb := h.hb.trans (hb.mono h.low.2.2.2)
  low := ⟨h.low.1, h.low.2.1, h.low.2.2.1, Nat.le_trans h.low.2.2.2 hb.size⟩
  nb := h.nb
  no := h.no
theorem Lp.box (h : Lp W0 wr base gM gT vb vo v0 v1 v2 mo bx l) (hk : Keeps (fun k => vb.ownBlock = some k) wr w1) (ho : RecsOwn 6 encB 56 base w1 v' (bx ++ [q])) (hv : v'.ownBlock = vb.ownBlock ∨ ∀ b, v'.ownBlock = some b → wr.heap.size ≤ b) :
    Lp W0 (w1.setCell ⟨gM, 1, none⟩ v') base gM gT v' vo v0 v1 v2 mo (bx ++ [q]) l := by
  have hk2 := (Keeps.refl (fun k => k = gM) w1).setCell gM 1 v' (.inl rfl)
  have nn' : ∀ b, v'.ownBlock = some b → b ≠ gM ∧ b ≠ gT ∧ vo.ownBlock ≠ some b := by
    intro b hb
    rcases hv with e | e
    · exact h.nb b (e ▸ hb)
    · have h1 := e b hb
      have h2 := Base.lt_of_heap h.m
      have h3 := Base.lt_of_heap h.t
      exact ⟨by omega, by omega, fun e2 => by have := (h.o.row.lt b e2).2; omega⟩
  refine ⟨?_, ?_, ho.frame hk2 (fun b e1 e2 => (nn' b e1).1 e2), (h.o.frame hk (fun b e1 e2 => (h.nb b e2).2.2 e1)).frame hk2 (fun b e1 e2 => (h.no b e1).1 e2), (h.hb.trans (hk.below base h.low.2.2.2 (fun k e => (h.b.lt k e).1))).trans (hk2.below base (Nat.le_trans h.low.2.2.2 hk.size) (fun k e => by have := h.low.1; omega)), ⟨h.low.1, h.low.2.1, h.low.2.2.1, Nat.le_trans h.low.2.2.2 (Nat.le_trans hk.size hk2.size)⟩, nn', h.no⟩
  · rw [heap_setCell_same _ _ _ _ _ _ (keep_cell hk h.m (fun e => (h.nb gM e).1 rfl))]; rfl
  · exact keep_cell hk2 (keep_cell hk h.t (fun e => (h.nb gT e).2.1 rfl)) (Ne.symm h.low.2.2.1)
theorem Lp.ord (h : Lp W0 wr base gM gT vb vo v0 v1 v2 mo bx l) (hg : wr.grownBy w1 vo.ownBlock) (ho : Own .i64 9223372036854775808 3 base w1 v' (l ++ k)) (hv : v'.ownBlock = vo.ownBlock ∨ ∀ b, v'.ownBlock = some b → wr.heap.size ≤ b) :
    Lp W0 (w1.setCell ⟨gT, 5, none⟩ v') base gM gT vb v' v0 v1 v2 mo bx (l ++ k) := by
  have hk : Keeps (fun k => vo.ownBlock = some k) wr w1 := (Keeps.refl _ wr).grown hg (fun k e => .inl e)
  have hk2 := (Keeps.refl (fun k => k = gT) w1).setCell gT 5 v' (.inl rfl)
  have nn' : ∀ b, v'.ownBlock = some b → b ≠ gM ∧ b ≠ gT := by
    intro b hb
    rcases hv with e | e
    · exact h.no b (e ▸ hb)
    · have h1 := e b hb
      have h2 := Base.lt_of_heap h.m
      have h3 := Base.lt_of_heap h.t
      exact ⟨by omega, by omega⟩
  have nb' : ∀ b, vb.ownBlock = some b → b ≠ gM ∧ b ≠ gT ∧ v'.ownBlock ≠ some b := by
    intro b hb
    refine ⟨(h.nb b hb).1, (h.nb b hb).2.1, fun e2 => ?_⟩
    rcases hv with e | e
    · exact (h.nb b hb).2.2 (e ▸ e2)
    · have h1 := e b e2
      have := (h.b.lt b hb).2
      omega
  refine ⟨?_, ?_, (h.b.frame hk (fun b e1 e2 => (h.nb b e1).2.2 e2)).frame hk2 (fun b e1 e2 => (h.nb b e1).2.1 e2), ho.frame hk2 (fun b e1 e2 => (nn' b e1).2 e2), (h.hb.trans (hk.below base h.low.2.2.2 (fun k e => (h.o.row.lt k e).1))).trans (hk2.below base (Nat.le_trans h.low.2.2.2 hk.size) (fun k e => by have := h.low.2.1; omega)), ⟨h.low.1, h.low.2.1, h.low.2.2.1, Nat.le_trans h.low.2.2.2 (Nat.le_trans hk.size hk2.size)⟩, nb', nn'⟩
  · exact keep_cell hk2 (keep_cell hk h.m (fun e => (h.no gM e).1 rfl)) h.low.2.2.1
  · rw [heap_setCell_same _ _ _ _ _ _ (keep_cell hk h.t (fun e => (h.no gT e).2 rfl))]; rfl
end
end Go.Proofs.Ytdaokkgenfpmhaa.BvhD
