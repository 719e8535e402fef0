/- What a tree that is being built has in the world, and how it turns. -/
import Derived.Test.YtdaokkgenfpmhaaBvhV
import Derived.Test.YtdaokkgenfpmhaaQx
set_option linter.unusedVariables false
set_option linter.unusedSimpArgs false
namespace Go.Proofs.Ytdaokkgenfpmhaa.BvhW
open Go Go.RowKit Go.Sort Go.Lib FixM Base Num FixW Qb Qt Qa Qf VecW VecV VecU LightQ LightC MeshM Rec MeshA MeshD MeshP HitM HitX BvhM BvhA BvhB BvhS BvhT BvhU BvhV Qx
section
variable {α : Type} {c : Nat} {enc : α → List Value}
theorem flat_set (hlen : ∀ x, (enc x).length = c) : ∀ (l : List α) (i j : Nat) (h : i < l.length) (hj : j < c) (y : α) (a : Value), enc y = (enc l[i]).set j a → (l.set i y).flatMap enc = (l.flatMap enc).set (i * c + j) a := by
  intro l
  induction l with
  | nil => intro i j h; simp at h
  | cons x l ih =>
    intro i j h hj y a e
    cases i with
    | zero =>
      rw [List.set_cons_zero, List.flatMap_cons, List.flatMap_cons, e, Nat.zero_mul, Nat.zero_add, List.set_append_left _ _ (by rw [hlen]; exact hj)]
      rfl
    | succ i =>
      rw [List.set_cons_succ, List.flatMap_cons, List.flatMap_cons, List.set_append_right _ _ (by rw [hlen, Nat.add_mul]; omega), hlen, show (i + 1) * c + j - c = i * c + j by rw [Nat.add_mul]; omega, ih i j (by simpa using h) hj y a (by simpa using e)]
theorem _root_.Go.Proofs.Ytdaokkgenfpmhaa.Rec.RecsOwn.set1 (hlen : ∀ x, (enc x).length = c) {E base : Nat} {w : World} {g n cap : Nat} {l : List α} (h : RecsOwn c enc E base w (.slice (some ⟨g, 0, none⟩) n cap) l) (i j : Nat) (hi : i < l.length) (hj : j < c) (y : α) (a : Value) (e : enc y = (enc l[i]).set j a) :
    RecsOwn c enc E base (w.setCell ⟨g, i * c + j, none⟩ a) (.slice (some ⟨g, 0, none⟩) n cap) (l.set i y) := by
  have hn : n = l.length := by
    obtain ⟨a', cap', e'⟩ := h.slice_
    simp only [Value.slice.injEq] at e'
    exact e'.2.1
  subst hn
  have := (h.row.stored (i * c + j) a).1
  refine ⟨?_⟩
  rw [List.length_set, flat_set hlen l i j hi hj y a e]
  exact this
end
def encN (n : Nd) : List Value := [.int .i64 n.b.lo.x, .int .i64 n.b.lo.y, .int .i64 n.b.lo.z, .int .i64 n.b.hi.x, .int .i64 n.b.hi.y, .int .i64 n.b.hi.z, .int .i64 (n.f : Int), .int .i64 (n.t : Int), .int .i64 n.x, .int .i64 n.y]
theorem lenN (n : Nd) : (encN n).length = 10 := rfl
theorem oneN (n : Nd) : ∀ u ∈ encN n, u.oneCell' = true := by intro u hu; simp [encN] at hu; rcases hu with rfl | rfl | rfl | rfl | rfl | rfl | rfl | rfl | rfl | rfl <;> rfl
theorem nodes_slice : RecSlice Try.prog 32 58 10 encN (.agg #[.int .i64 0, .int .i64 0, .int .i64 0, .int .i64 0, .int .i64 0, .int .i64 0, .int .i64 0, .int .i64 0, .int .i64 0, .int .i64 0]) 80 := recSlice Try.underlying32 (by kernel_rfl) rfl oneN lenN (by decide)
theorem boxes_slice : RecSlice Try.prog 73 56 6 encB (.agg #[.int .i64 0, .int .i64 0, .int .i64 0, .int .i64 0, .int .i64 0, .int .i64 0]) 48 := recSlice Try.underlying73 (by kernel_rfl) rfl oneB lenB (by decide)
theorem _root_.Go.Proofs.Ytdaokkgenfpmhaa.Rec.RecsOwn.form {α : Type} {c : Nat} {enc : α → List Value} {E base : Nat} {w : World} {v : Value} {l : List α} (h : RecsOwn c enc E base w v l) (hp : 0 < l.length) : ∃ g cp cur, v = .slice (some ⟨g, 0, none⟩) l.length cp ∧ w.heap[g]? = some (.cells cur E) ∧ l.length ≤ cp ∧ cp ≤ 9223372036854775807 := by
  rcases h.row.2 with ⟨e, h0⟩ | ⟨g, cp, cur, e, -, hg, h1, h2, -⟩
  · omega
  · exact ⟨g, cp, cur, e, hg, h1, h2⟩
/-- a tree under way: its state s, built in a world whose blocks below base stay -/
structure Bd (w0 w : World) (base gM gT : Nat) (vb v0 v1 v2 : Value) (mo : Int) (blk cap : Nat) (bs : List Bx) (vn : Value) (s : Sta) : Prop where
  mt : MkAt w gM gT vb vn v0 v1 v2 (s.st : Int) mo (s.dp : Int) blk cap bs s.l base
  ns : RecsOwn 10 encN 58 base w vn s.ns
  hb : Below base w0 w
  low : base ≤ gM ∧ base ≤ gT ∧ gM ≠ gT ∧ base ≤ w.heap.size
  nn : ∀ b, vn.ownBlock = some b → b ≠ gM ∧ b ≠ gT ∧ b ≠ blk ∧ vb.ownBlock ≠ some b
  bm : vb.ownBlock ≠ some gM ∧ vb.ownBlock ≠ some gT
  bl : ∀ b, vb.ownBlock = some b → b < w.heap.size
section
variable {w0 w w' : World} {base gM gT : Nat} {vb v0 v1 v2 : Value} {mo : Int} {blk cap : Nat} {bs : List Bx} {vn : Value} {s : Sta}
theorem Bd.below (h : Bd w0 w base gM gT vb v0 v1 v2 mo blk cap bs vn s) (hb : Below w.heap.size w w') : Bd w0 w' base gM gT vb v0 v1 v2 mo blk cap bs vn s where
  mt := ⟨vec_step h.mt.m hb, vec_step h.mt.t hb, h.mt.b.below hb (Nat.le_refl _), h.mt.o.below hb (Nat.le_refl _), h.mt.nM, h.mt.nT, h.mt.nb⟩
  ns := h.ns.below hb (Nat.le_refl _)
  hb := h.hb.trans (hb.mono h.low.2.2.2)
  low := ⟨h.low.1, h.low.2.1, h.low.2.2.1, Nat.le_trans h.low.2.2.2 hb.size⟩
  nn := h.nn
  bm := h.bm
  bl := fun b e => Nat.lt_of_lt_of_le (h.bl b e) hb.size
/-- a cell of the tree itself -/
theorem Bd.setT (h : Bd w0 w base gM gT vb v0 v1 v2 mo blk cap bs vn s) (d : Nat) : Bd w0 (w.setCell ⟨gT, 6, none⟩ (.int .i64 (d : Int))) base gM gT vb v0 v1 v2 mo blk cap bs vn ⟨s.ns, s.l, d, s.st⟩ := by
  have hk := (Keeps.refl (fun k => k = gT) w).setCell gT 6 (.int .i64 (d : Int)) (.inl rfl)
  refine ⟨⟨?_, ?_, h.mt.b.frame hk (fun b e1 e2 => h.bm.2 (by rw [e1, e2])), h.mt.o.frame hk (fun b e1 e2 => by simp [Value.ownBlock] at e1; exact h.mt.nT (by omega)), h.mt.nM, h.mt.nT, h.mt.nb⟩, h.ns.frame hk (fun b e1 e2 => (h.nn b e1).2.1 e2), h.hb.trans (hk.below base h.low.2.2.2 (fun k e => by have := h.low.2.1; omega)), ⟨h.low.1, h.low.2.1, h.low.2.2.1, Nat.le_trans h.low.2.2.2 hk.size⟩, h.nn, h.bm, fun b e => Nat.lt_of_lt_of_le (h.bl b e) hk.size⟩
  · exact keep_cell hk h.mt.m h.low.2.2.1
  · rw [heap_setCell_same _ _ _ _ _ _ h.mt.t]; rfl
theorem Bd.setM (h : Bd w0 w base gM gT vb v0 v1 v2 mo blk cap bs vn s) (d : Nat) : Bd w0 (w.setCell ⟨gM, 2, none⟩ (.int .i64 (d : Int))) base gM gT vb v0 v1 v2 mo blk cap bs vn ⟨s.ns, s.l, s.dp, d⟩ := by
  have hk := (Keeps.refl (fun k => k = gM) w).setCell gM 2 (.int .i64 (d : Int)) (.inl rfl)
  refine ⟨⟨?_, ?_, h.mt.b.frame hk (fun b e1 e2 => h.bm.1 (by rw [e1, e2])), h.mt.o.frame hk (fun b e1 e2 => by simp [Value.ownBlock] at e1; exact h.mt.nM (by omega)), h.mt.nM, h.mt.nT, h.mt.nb⟩, h.ns.frame hk (fun b e1 e2 => (h.nn b e1).1 e2), h.hb.trans (hk.below base h.low.2.2.2 (fun k e => by have := h.low.1; omega)), ⟨h.low.1, h.low.2.1, h.low.2.2.1, Nat.le_trans h.low.2.2.2 hk.size⟩, h.nn, h.bm, fun b e => Nat.lt_of_lt_of_le (h.bl b e) hk.size⟩
  · rw [heap_setCell_same _ _ _ _ _ _ h.mt.m]; rfl
  · exact keep_cell hk h.mt.t (Ne.symm h.low.2.2.1)
/-- one node more -/
theorem Bd.app {w1 : World} {v' : Value} {q : Nd} (h : Bd w0 w base gM gT vb v0 v1 v2 mo blk cap bs vn s) (hk : Keeps (fun k => vn.ownBlock = some k) w w1) (ho : RecsOwn 10 encN 58 base w1 v' (s.ns ++ [q])) (hv : v'.ownBlock = vn.ownBlock ∨ ∀ b, v'.ownBlock = some b → w.heap.size ≤ b) :
    Bd w0 (w1.setCell ⟨gT, 4, none⟩ v') base gM gT vb v0 v1 v2 mo blk cap bs v' ⟨s.ns ++ [q], s.l, s.dp, s.st⟩ := by
  have hk2 := (Keeps.refl (fun k => k = gT) w1).setCell gT 4 v' (.inl rfl)
  have nn' : ∀ b, v'.ownBlock = some b → b ≠ gM ∧ b ≠ gT ∧ b ≠ blk ∧ vb.ownBlock ≠ some b := by
    intro b hb
    rcases hv with e | e
    · exact h.nn b (e ▸ hb)
    · have h1 := e b hb
      have h2 := Base.lt_of_heap h.mt.m
      have h3 := Base.lt_of_heap h.mt.t
      have h4 := (h.mt.o.lt blk rfl).2
      refine ⟨by omega, by omega, by omega, fun e2 => ?_⟩
      have := h.bl b e2; omega
  refine ⟨⟨?_, ?_, (h.mt.b.frame hk (fun b e1 e2 => (h.nn b e2).2.2.2 e1)).frame hk2 (fun b e1 e2 => h.bm.2 (by rw [e1, e2])), (h.mt.o.frame hk (fun b e1 e2 => by simp [Value.ownBlock] at e1; exact (h.nn b e2).2.2.1 (by omega))).frame hk2 (fun b e1 e2 => by simp [Value.ownBlock] at e1; exact h.mt.nT (by omega)), h.mt.nM, h.mt.nT, h.mt.nb⟩, ho.frame hk2 (fun b e1 e2 => (nn' b e1).2.1 e2), (h.hb.trans (hk.below base h.low.2.2.2 (fun k e => (h.ns.lt k e).1))).trans (hk2.below base (Nat.le_trans h.low.2.2.2 hk.size) (fun k e => by have := h.low.2.1; omega)), ⟨h.low.1, h.low.2.1, h.low.2.2.1, Nat.le_trans h.low.2.2.2 (Nat.le_trans hk.size hk2.size)⟩, nn', h.bm, fun b e => Nat.lt_of_lt_of_le (h.bl b e) (Nat.le_trans hk.size hk2.size)⟩
  · exact keep_cell hk2 (keep_cell hk h.mt.m (fun e => (h.nn gM e).1 rfl)) h.low.2.2.1
  · rw [heap_setCell_same _ _ _ _ _ _ (keep_cell hk h.mt.t (fun e => (h.nn gT e).2.1 rfl))]; rfl
/-- a part of the order in another order -/
theorem Bd.sorted {l' : List Nat} (h : Bd w0 w base gM gT vb v0 v1 v2 mo blk cap bs vn s) (hk : Keeps (fun k => k = blk) w w') (ho : Own .i64 9223372036854775808 3 base w' (.slice (some ⟨blk, 0, none⟩) s.l.length cap) l') (hl : l'.length = s.l.length) : Bd w0 w' base gM gT vb v0 v1 v2 mo blk cap bs vn ⟨s.ns, l', s.dp, s.st⟩ where
  mt := ⟨keep_cell hk h.mt.m h.mt.nM, by rw [hl]; exact keep_cell hk h.mt.t h.mt.nT, h.mt.b.frame hk (fun b e1 e2 => h.mt.nb (by rw [e1, e2])), by rw [hl]; exact ho, h.mt.nM, h.mt.nT, h.mt.nb⟩
  ns := h.ns.frame hk (fun b e1 e2 => (h.nn b e1).2.2.1 e2)
  hb := h.hb.trans (hk.below base h.low.2.2.2 (fun k e => by rw [e]; exact (h.mt.o.lt blk rfl).1))
  low := ⟨h.low.1, h.low.2.1, h.low.2.2.1, Nat.le_trans h.low.2.2.2 hk.size⟩
  nn := h.nn
  bm := h.bm
  bl := fun b e => Nat.lt_of_lt_of_le (h.bl b e) hk.size
/-- a node's kids -/
theorem Bd.kids {g n cp : Nat} (h : Bd w0 w base gM gT vb v0 v1 v2 mo blk cap bs (.slice (some ⟨g, 0, none⟩) n cp) s) (i : Nat) (hi : i < s.ns.length) (b : Bx) (f t : Nat) (x0 y0 x y : Int) (he : s.ns[i] = ⟨b, f, t, x0, y0⟩) :
    Bd w0 ((w.setCell ⟨g, i * 10 + 8, none⟩ (.int .i64 x)).setCell ⟨g, i * 10 + 9, none⟩ (.int .i64 y)) base gM gT vb v0 v1 v2 mo blk cap bs (.slice (some ⟨g, 0, none⟩) n cp) ⟨s.ns.set i ⟨b, f, t, x, y⟩, s.l, s.dp, s.st⟩ := by
  have hg := h.nn g rfl
  have hk := ((Keeps.refl (fun k => k = g) w).setCell g (i * 10 + 8) (.int .i64 x) (.inl rfl)).setCell g (i * 10 + 9) (.int .i64 y) (.inl rfl)
  have hbg : base ≤ g := (h.ns.lt g rfl).1
  refine ⟨⟨keep_cell hk h.mt.m (Ne.symm hg.1), keep_cell hk h.mt.t (Ne.symm hg.2.1), h.mt.b.frame hk (fun b e1 e2 => hg.2.2.2 (by rw [e1, e2])), h.mt.o.frame hk (fun b e1 e2 => by simp [Value.ownBlock] at e1; exact hg.2.2.1 (by omega)), h.mt.nM, h.mt.nT, h.mt.nb⟩, ?_, h.hb.trans (hk.below base h.low.2.2.2 (fun k e => by omega)), ⟨h.low.1, h.low.2.1, h.low.2.2.1, Nat.le_trans h.low.2.2.2 hk.size⟩, h.nn, h.bm, fun b e => Nat.lt_of_lt_of_le (h.bl b e) hk.size⟩
  have h1 := h.ns.set1 lenN i 8 hi (by decide) ⟨b, f, t, x, y0⟩ (.int .i64 x) (by rw [he]; rfl)
  have h2 := h1.set1 lenN i 9 (by rw [List.length_set]; exact hi) (by decide) ⟨b, f, t, x, y⟩ (.int .i64 y) (by rw [List.getElem_set_self]; rfl)
  rw [List.set_set] at h2
  exact h2
end
end Go.Proofs.Ytdaokkgenfpmhaa.BvhW
