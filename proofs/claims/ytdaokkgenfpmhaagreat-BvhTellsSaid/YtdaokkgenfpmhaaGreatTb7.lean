/- Joined texts of this claim, part 7: contracts and plain laws that its proof stands on. -/
import Derived.Test.YtdaokkgenfpmhaaGreatTb6
/- Law14's BvhTells. -/
set_option linter.unusedVariables false
set_option linter.unusedSimpArgs false
namespace Go.Proofs.YtdaokkgenfpmhaaGreat.BvhTa
open Go Go.RowKit Go.Sort Go.Lib FixM Base Num FixW Qb Qt Qa Qf Qg VecW VecV VecU LightQ LightC MeshM Rec MeshA MeshC MeshD MeshE MeshP MeshQ MeshR MeshEq MeshSa MeshTa HitM HitT HitX HitN HitS HitV BvhM BvhA BvhB BvhS BvhX BvhC BvhD BvhE BvhF BvhG BvhH BvhI BvhJ BvhL BvhQ BvhO BvhR BvhSa BvhZ BvhN BvhRa BvhY BvhRb OpenRays
theorem far_below {B : Nat} {w w' : World} {g : Nat} {m : Msh} (h : TreeFar B w g m) (hb : Below w.heap.size w w') : TreeFar B w' g m := by
 obtain ⟨v0, v1, v2, vn, vo, h1, h2, h3, h4, h5⟩ := h
 exact ⟨⟨v0, v1, v2, vn, vo, vec_step h1 hb, h2.below hb, h3.below hb (Nat.le_refl _), h4.below hb (Nat.le_refl _), h5⟩⟩
theorem tree_keep {B : Nat} {S : Nat → Prop} {w w' : World} {g : Nat} {m : Msh} (h : TreeFar B w g m) (hk : Keeps S w w') (hS : ∀ k, S k → k < B) : TreeAt w' g m := by
 obtain ⟨v0, v1, v2, vn, vo, h1, h2, h3, h4, h5, h6, h7, h8⟩ := h
 have hF := h6 _ _ _ rfl
 obtain ⟨s0, s1, s2, e, r0, r1, r2⟩ := h2.ex
 simp only [Value.agg.injEq, Array.mk.injEq, List.cons.injEq, and_true] at e
 obtain ⟨rfl, rfl, rfl⟩ := e
 have nS : ∀ {v : Value}, Fr B v → ∀ b, v.ownBlock = some b → ¬ S b := fun hv b e hs => by have h1 := hS b hs; have h2 := hv b e; omega
 exact ⟨⟨v0, v1, v2, vn, vo, keep_cell hk h1 (fun e => by have := hS g e; omega), ⟨⟨_, _, _, rfl, r0.frame hk (nS hF.1), r1.frame hk (nS hF.2.1), r2.frame hk (nS hF.2.2)⟩⟩, h3.frame hk (nS h7), h4.frame hk (nS h8)⟩⟩
/-- a row of records that may be written: its block lies from B0 to B1 -/
def SlotW (E : TypeId) (c B0 B1 : Nat) (w : World) (a : Option Addr) (n : Nat) : Prop := 0 < n → ∃ g cur, a = some ⟨g, 0, none⟩ ∧ B0 ≤ g ∧ g < B1 ∧ w.heap[g]? = some (.cells cur E) ∧ n * c ≤ cur.size
theorem slot_own {α : Type} {c : Nat} {enc : α → List Value} {E B0 : Nat} {w : World} {a : Option Addr} {n cap : Nat} {l : List α} (h : RecsOwn c enc E B0 w (.slice a n cap) l) (hn : n = l.length) : SlotW E c B0 w.heap.size w a n := by
 intro hp
 rcases h.row.2 with ⟨e, h0⟩ | ⟨g, cp, cur, e, h1, h2, h3, h4, h5, h6⟩
 ·
  omega
 ·
  simp only [Value.slice.injEq] at e
  obtain ⟨rfl, -, -⟩ := e
  refine ⟨g, cur, rfl, h1, Base.lt_of_heap h2, h2, ?_⟩
  rw [h5, hn]
  exact Nat.mul_le_mul_right _ h3
theorem SlotW.below {E : TypeId} {c B0 B1 : Nat} {w w' : World} {a : Option Addr} {n : Nat} (h : SlotW E c B0 B1 w a n) (hb : Below B1 w w') : SlotW E c B0 B1 w' a n := by
 intro hp
 obtain ⟨g, cur, e, h1, h2, h3, h4⟩ := h hp
 exact ⟨g, cur, e, h1, h2, (hb.block g h2).trans h3, h4⟩
theorem setCells_row {g E : Nat} : ∀ (vs : List Value) (w : World) (off : Nat) (cur : Array Value), w.heap[g]? = some (.cells cur E) → ∃ cur', (w.setCells g off vs).heap[g]? = some (.cells cur' E) ∧ cur'.size = cur.size := by
 intro vs
 induction vs with
 | nil => intro w off cur h; exact ⟨cur, h, rfl⟩
 | cons v vs ih =>
  intro w off cur h
  obtain ⟨cur', h1, h2⟩ := ih (w.setCell ⟨g, off, none⟩ v) (off + 1) _ (heap_setCell_same _ _ _ _ _ _ h)
  exact ⟨cur', h1, by rw [h2]; simp⟩
theorem setCells_keeps {S : Nat → Prop} {g : Nat} (hg : S g) : ∀ (vs : List Value) (w0 w : World) (off : Nat), Keeps S w0 w → Keeps S w0 (w.setCells g off vs) := by
 intro vs
 induction vs with
 | nil => intro w0 w off h; exact h
 | cons v vs ih => intro w0 w off h; exact ih w0 _ (off + 1) (h.setCell g off v (.inl hg))
theorem there_row {w : World} {g E n off : Nat} {cur : Array Value} (h : w.heap[g]? = some (.cells cur E)) (hn : off + n ≤ cur.size) : w.there g off n := by
 intro j hj
 refine ⟨?_, frozen_of_row _ _ _ _ _ h⟩
 rw [cell_row h (off + j) (cur[off + j]'(by omega)) (Array.getElem?_eq_getElem _)]; rfl
theorem SlotW.set {E E2 : TypeId} {c c2 B0 B1 : Nat} {w : World} {a : Option Addr} {n g off : Nat} (h : SlotW E c B0 B1 w a n) (vs : List Value) : SlotW E c B0 B1 (w.setCells g off vs) a n := by
 intro hp
 obtain ⟨g', cur, e, h1, h2, h3, h4⟩ := h hp
 by_cases hg : g' = g
 ·
  subst hg
  obtain ⟨cur', h5, h6⟩ := setCells_row vs w off cur h3
  exact ⟨g', cur', e, h1, h2, h5, by rw [h6]; exact h4⟩
 ·
  have hk := setCells_keeps (S := fun k => k = g) rfl vs w w off (Keeps.refl _ _)
  exact ⟨g', cur, e, h1, h2, keep_cell hk h3 hg, h4⟩
theorem ball_size2 : (Tryz.prog.info? 51).map (·.size) = some 4 := by kernel_rfl
theorem vec_size2 : (Tryz.prog.info? 46).map (·.size) = some 3 := by kernel_rfl
theorem store_ballz {ops : Array Oper} {rest : List Oper} {o : Oper} {a : Act} {w : World} {Q : Exit → Act → World → Prop} (hgd : o.guard = none) (x y : Operand) (ho : o.op = .store 51 x y) (hd : o.dst = none)
  (g off : Nat) (hx : a.eval x = .pointer (some ⟨g, off, none⟩)) (hy : a.eval y = .agg #[.int .i64 0, .int .i64 0, .int .i64 0, .int .i64 0]) (ht : w.there g off 4)
  (h : wpList Tryz.prog ops Q rest a (w.setCells g off [.int .i64 0, .int .i64 0, .int .i64 0, .int .i64 0])) : wpList Tryz.prog ops Q (o :: rest) a w :=
 wpList_store_mid hgd 51 x y ho g off _ hx hy ht ball_size2 (BvhY.row_one4 _ _ _ _) (by rw [hd]; exact h)
theorem store_vecz {ops : Array Oper} {rest : List Oper} {o : Oper} {a : Act} {w : World} {Q : Exit → Act → World → Prop} (hgd : o.guard = none) (x y : Operand) (ho : o.op = .store 46 x y) (hd : o.dst = none)
  (g off : Nat) (hx : a.eval x = .pointer (some ⟨g, off, none⟩)) (hy : a.eval y = .agg #[.int .i64 0, .int .i64 0, .int .i64 0]) (ht : w.there g off 3)
  (h : wpList Tryz.prog ops Q rest a (w.setCells g off [.int .i64 0, .int .i64 0, .int .i64 0])) : wpList Tryz.prog ops Q (o :: rest) a w :=
 wpList_store_mid hgd 46 x y ho g off _ hx hy ht vec_size2 (by rw [Array.all_eq_true']; intro v hv; simp at hv; rcases hv with rfl | rfl | rfl <;> rfl) (by rw [hd]; exact h)
/-- where both refuse -/
theorem both_fail (m : Msh) (ok : m.ok) (hl : m.ts.length + m.bs.length ≤ 9223372036854775807) (steps : Int) (h : ¬ (checkF m = 0 ∧ ¬ steps < (stepsM m : Int))) : ∃ ec : Int, ec ≠ 0 ∧ (∀ v w, IsMesh w v m → Calls Tryz.prog 5 #[v, .int .i64 steps] w (VTo (.tuple #[.pointer none, .int .i64 0, .int .i64 ec]) w)) ∧
  ∀ a0 n0 c0 a1 n1 c1 a2 n2 c2 w, IsMesh w (.agg #[.slice a0 n0 c0, .slice a1 n1 c1, .slice a2 n2 c2]) m → Calls Tryz.prog 7 #[.agg #[.slice a0 n0 c0, .slice a1 n1 c1, .slice a2 n2 c2], .int .i64 steps] w (VTo (.tuple #[.agg #[.slice none 0 0, .slice none 0 0, .slice none 0 0, .slice none 0 0], .int .i64 0, .int .i64 ec]) w) := by
 by_cases hc : checkF m = 0
 ·
  have hs : steps < (stepsM m : Int) := by
   exact Classical.byContradiction fun h1 => h ⟨hc, h1⟩
  refine ⟨15, by decide, fun v w hm => build_short hm ok hc steps hs, fun a0 n0 c0 a1 n1 c1 a2 n2 c2 w hm => ?_⟩
  refine (rbuild_any m w a0 n0 c0 a1 n1 c1 a2 n2 c2 hm ok hl steps w.heap.size (Nat.le_refl _)).mono ?_
  rintro e w' ⟨hb, h⟩
  rw [if_neg (fun h => h hc), if_pos hs] at h
  exact ⟨h, hb⟩
 ·
  refine ⟨checkF m, hc, fun v w hm => build_wrong hm ok hc steps, fun a0 n0 c0 a1 n1 c1 a2 n2 c2 w hm => ?_⟩
  refine (rbuild_any m w a0 n0 c0 a1 n1 c1 a2 n2 c2 hm ok hl steps w.heap.size (Nat.le_refl _)).mono ?_
  rintro e w' ⟨hb, h⟩
  rw [if_pos hc] at h
  exact ⟨h, hb⟩
theorem rbuild_made (m : Msh) (ok : m.ok) (hl : m.ts.length + m.bs.length ≤ 9223372036854775807) (steps : Int) (h : checkF m = 0 ∧ ¬ steps < (stepsM m : Int)) (a0 : Option Addr) (n0 c0 : Nat) (a1 : Option Addr) (n1 c1 : Nat) (a2 : Option Addr) (n2 c2 : Nat) (w : World) (hm : IsMesh w (.agg #[.slice a0 n0 c0, .slice a1 n1 c1, .slice a2 n2 c2]) m) :
  Calls Tryz.prog 7 #[.agg #[.slice a0 n0 c0, .slice a1 n1 c1, .slice a2 n2 c2], .int .i64 steps] w (fun e w' => ∃ a3 n3 c3, e = .returned (.tuple #[.agg #[.slice a0 n0 c0, .slice a1 n1 c1, .slice a2 n2 c2, .slice a3 n3 c3], .int .i64 (stepsM m : Int), .int .i64 0]) ∧ FirstAt w.heap.size m w' a3 n3 ∧ Below w.heap.size w w') := by
 refine (rbuild_any m w a0 n0 c0 a1 n1 c1 a2 n2 c2 hm ok hl steps w.heap.size (Nat.le_refl _)).mono ?_
 rintro e w' ⟨hb, h2⟩
 rw [if_neg (fun h3 => h3 h.1), if_neg h.2] at h2
 obtain ⟨a3, n3, c3, e1, hf⟩ := h2
 exact ⟨a3, n3, c3, e1, hf, hb⟩
set_option maxRecDepth 100000 in
set_option maxHeartbeats 32000000 in
theorem bvhTells_any (v vr : Value) (m : Msh) (rs : List Ry) (w : World) (hm : IsMesh w v m) (ok : m.ok) (hrs : Recs 6 encR w vr rs) (hro : ∀ r ∈ rs, r.ok) (steps least : Int) : Calls Tryz.prog 4 #[v, .int .i64 steps, vr, .int .i64 least] w (AwTo w) := by
 obtain ⟨a0, c0, a1, c1, a2, c2, rfl, -⟩ := hm.open_
 obtain ⟨ar, cr, rfl, hrl, -⟩ := hrs.open_
 have HM := Lib.hid hm
 have HRS := Lib.hid hrs
 have HRO := Lib.hid hro
 have HOK := Lib.hid ok
 have HRL := Lib.hid hrl
 obtain ⟨n0, hn0⟩ : ∃ x, x = m.ps.length := ⟨_, rfl⟩
 obtain ⟨n1, hn1⟩ : ∃ x, x = m.ts.length := ⟨_, rfl⟩
 obtain ⟨n2, hn2⟩ : ∃ x, x = m.bs.length := ⟨_, rfl⟩
 obtain ⟨RL, hRL⟩ : ∃ x, x = rs.length := ⟨_, rfl⟩
 rw [← hn0, ← hn1, ← hn2] at HM ⊢
 rw [← hRL] at HRS HRL ⊢
 have HNL := Lib.hid (And.intro hn0 (And.intro hn1 (And.intro hn2 hRL)))
 have CSM := Lib.hid (fun w2 (hb : Below w.heap.size w w2) => BvhI.smallMesh_any _ m w2 (HM.out.below hb) 40)
 rw [← hn0, ← hn1, ← hn2] at CSM
 clear hm ok hrs hro hrl hn0 hn1 hn2 hRL
 have hA := heap_alloc_new w (.cells #[.slice a0 n0 c0, .slice a1 n1 c1, .slice a2 n2 c2] 31)
 have hB := ext_alloc w (.cells #[.slice a0 n0 c0, .slice a1 n1 c1, .slice a2 n2 c2] 31)
 obtain ⟨W, hW⟩ : ∃ ww, ww = w.alloc (.cells #[.slice a0 n0 c0, .slice a1 n1 c1, .slice a2 n2 c2] 31) := ⟨_, rfl⟩
 rw [← hW] at hA hB
 have HP := Lib.hid hA
 have HB := Lib.hid hB
 have HWW := Lib.hid hW
 have HAW := Lib.hid (fun w2 => awake_any w2)
 obtain ⟨sm, hsm⟩ : ∃ b, b = (decide ((n0 : Int) ≤ 40) && decide ((n1 : Int) ≤ 40) && decide ((n2 : Int) ≤ 40)) := ⟨_, rfl⟩
 rw [← hsm] at CSM
 have HSM := Lib.hid hsm
 clear hA hB hW hsm
 go_enter Tryz.func4, Tryz.ntmps4
 go_upto_region 1 with (fail)
 rw [← HWW.out]
 clear HWW
 have p0 := cell_row HP.out 0 _ rfl
 have p1 := cell_row HP.out 1 _ rfl
 have p2 := cell_row HP.out 2 _ rfl
 go_wp2_with fail
 refine (CSM.out _ HB.out).mono ?_
 rintro e w1 ⟨rfl, hb⟩
 have HP1 := Lib.hid (vec_step HP.out hb)
 have HB1 := Lib.hid (HB.out.trans (hb.mono HB.out.size))
 clear hb p0 p1 p2 CSM HP HB
 clear W
 cases sm with
 | false =>
  go_wp2_with fail
  refine (HAW.out _).mono ?_
  rintro e w2 ⟨rfl, hb⟩
  have HF := Lib.hid (HB1.out.trans (hb.mono HB1.out.size))
  go_wp2_with fail
  go_ret
  exact ⟨rfl, HF.out⟩
 | true =>
  have HN4 := Lib.hid (show n0 ≤ 40 ∧ n1 ≤ 40 ∧ n2 ≤ 40 by have h := HSM.out; simp only [Bool.true_eq, Bool.and_eq_true, decide_eq_true_eq] at h; omega)
  have HCN := Lib.hid (show cntM m ≤ 80 by have h1 := HN4.out; have h2 := HNL.out; unfold cntM; omega)
  have HM1 := Lib.hid (HM.out.below HB1.out)
  have CCM := Lib.hid (copyMesh_own _ m w1 HM1.out (by have h1 := HN4.out; have h2 := HNL.out; omega) (by have h1 := HN4.out; have h2 := HNL.out; omega) (by have h1 := HN4.out; have h2 := HNL.out; omega))
  have HG1 := Lib.hid (show w.heap.size < w1.heap.size from Base.lt_of_heap HP1.out)
  have p0 := cell_row HP1.out 0 _ rfl
  have p1 := cell_row HP1.out 1 _ rfl
  have p2 := cell_row HP1.out 2 _ rfl
  go_wp2_with fail
  refine CCM.out.mono ?_
  rintro e w2 ⟨v0, v1, v2, rfl, o0, o1, o2, hb⟩
  obtain ⟨x0, y0, e0⟩ := o0.slice_
  obtain ⟨x1, y1, e1⟩ := o1.slice_
  obtain ⟨x2, y2, e2⟩ := o2.slice_
  rw [← HNL.out.1] at e0
  rw [← HNL.out.2.1] at e1
  rw [← HNL.out.2.2.1] at e2
  subst e0 e1 e2
  have HP2 := Lib.hid (vec_step HP1.out hb)
  have HB2 := Lib.hid (HB1.out.trans (hb.mono HB1.out.size))
  have HIM := Lib.hid (show IsMesh w2 (.agg #[.slice x0 n0 y0, .slice x1 n1 y1, .slice x2 n2 y2]) m from ⟨⟨_, _, _, rfl, o0.recs len3, o1.recs len3, o2.recs len4⟩⟩)
  have HW0 := Lib.hid (slot_own o0 HNL.out.1)
  have HW2 := Lib.hid (slot_own o2 HNL.out.2.2.1)
  obtain ⟨B0, hB0⟩ : ∃ x, x = w1.heap.size + 3 := ⟨_, rfl⟩
  rw [← hB0] at HW0 HW2
  have HBB := Lib.hid (show w.heap.size < B0 by have := HG1.out; omega)
  clear hb p0 p1 p2 o0 o1 o2 hB0 HG1 CCM HP1 HB1 HM1
  clear w1
  go_upto_region 4 with (with_reducible refine BvhI.store_mesh rfl (.tmp 9) (.tmp 30) rfl rfl w2.heap.size (.slice x0 n0 y0) (.slice x1 n1 y1) (.slice x2 n2 y2) rfl rfl _ (heap_alloc_new _ _) rfl ⟨rfl, rfl, rfl⟩ ?_)
  have h9 : ((w2.alloc (.cells #[.slice none 0 0, .slice none 0 0, .slice none 0 0] 31)).setRow w2.heap.size #[.slice x0 n0 y0, .slice x1 n1 y1, .slice x2 n2 y2]).heap[w2.heap.size]? = some (.cells #[.slice x0 n0 y0, .slice x1 n1 y1, .slice x2 n2 y2] 31) := setRow_heap _ _ _ _ _ _ (heap_alloc_new _ _)
  have hx := below_setRow (ext_alloc w2 (.cells #[.slice none 0 0, .slice none 0 0, .slice none 0 0] 31)) (Nat.le_refl _) #[.slice x0 n0 y0, .slice x1 n1 y1, .slice x2 n2 y2]
  obtain ⟨w3, hW⟩ : ∃ ww, ww = (w2.alloc (.cells #[.slice none 0 0, .slice none 0 0, .slice none 0 0] 31)).setRow w2.heap.size #[.slice x0 n0 y0, .slice x1 n1 y1, .slice x2 n2 y2] := ⟨_, rfl⟩
  rw [← hW] at h9 hx ⊢
  have H93 := Lib.hid h9
  have HP3 := Lib.hid (vec_step HP2.out hx)
  have HB3 := Lib.hid (HB2.out.trans (hx.mono HB2.out.size))
  have HIM3 := Lib.hid (HIM.out.below hx)
  have HW03 := Lib.hid (HW0.out.below hx)
  have HW23 := Lib.hid (HW2.out.below hx)
  have HB1W := Lib.hid (show w.heap.size < w2.heap.size from Base.lt_of_heap HP2.out)
  clear hW h9 hx HP2 HB2 HIM HW0 HW2
  obtain ⟨B1, hB1⟩ : ∃ x, x = w2.heap.size := ⟨_, rfl⟩
  rw [← hB1] at H93 HW03 HW23 HB1W ⊢
  clear hB1
  clear w2
  have HL1 := Lib.hid (show m.ts.length + m.bs.length ≤ 9223372036854775807 by have h := HCN.out; unfold cntM at h; omega)
  have HSZ9 := Lib.hid (show B1 < w3.heap.size from Base.lt_of_heap H93.out)
  by_cases hA : checkF m = 0 ∧ ¬ steps < (stepsM m : Int)
  ·
   have HAA := Lib.hid hA
   have CB := Lib.hid (build_far HIM3.out HOK.out HAA.out.1 steps HAA.out.2)
   have CR := Lib.hid (fun w2 (h : IsMesh w2 (.agg #[.slice a0 n0 c0, .slice a1 n1 c1, .slice a2 n2 c2]) m) => rbuild_made m HOK.out HL1.out steps HAA.out a0 n0 c0 a1 n1 c1 a2 n2 c2 w2 h)
   obtain ⟨st, hst⟩ : ∃ x, x = stepsM m := ⟨_, rfl⟩
   rw [← hst] at CB CR
   clear hst hA HAA
   have i0 := cell_row H93.out 0 _ rfl
   have i1 := cell_row H93.out 1 _ rfl
   have i2 := cell_row H93.out 2 _ rfl
   go_wp2_with fail
   refine CB.out.mono ?_
   rintro e w4 ⟨g, rfl, ht, hb⟩
   have HT4 := Lib.hid ht
   have HP4 := Lib.hid (vec_step HP3.out hb)
   have H94 := Lib.hid (vec_step H93.out hb)
   have HB4 := Lib.hid (HB3.out.trans (hb.mono HB3.out.size))
   have HIM4 := Lib.hid (HIM3.out.below hb)
   have HW04 := Lib.hid (HW03.out.below (hb.mono (Nat.le_of_lt HSZ9.out)))
   have HW24 := Lib.hid (HW23.out.below (hb.mono (Nat.le_of_lt HSZ9.out)))
   have HS34 := Lib.hid hb.size
   clear ht hb i0 i1 i2 CB HP3 H93 HB3 HIM3 HW03 HW23
   have p0 := cell_row HP4.out 0 _ rfl
   have p1 := cell_row HP4.out 1 _ rfl
   have p2 := cell_row HP4.out 2 _ rfl
   have CR2 := Lib.hid (CR.out w4 (HM.out.below HB4.out))
   go_wp2_with fail
   refine CR2.out.mono ?_
   rintro e w5 ⟨a3, n3, c3, rfl, hf, hb⟩
   have HF5 := Lib.hid hf
   have HT5 := Lib.hid (show TreeFar w3.heap.size w5 g m from far_below HT4.out hb)
   have HP5 := Lib.hid (vec_step HP4.out hb)
   have H95 := Lib.hid (vec_step H94.out hb)
   have HB5 := Lib.hid (HB4.out.trans (hb.mono HB4.out.size))
   have HIM5 := Lib.hid (HIM4.out.below hb)
   have HS4 := Lib.hid (show B1 ≤ w4.heap.size by have h1 := HSZ9.out; have h2 := HS34.out; omega)
   have HW05 := Lib.hid (HW04.out.below (hb.mono HS4.out))
   have HW25 := Lib.hid (HW24.out.below (hb.mono HS4.out))
   have HS45 := Lib.hid hb.size
   clear hf hb p0 p1 p2 CR CR2 HT4 HP4 H94 HB4 HIM4 HW04 HW24
   go_upto_region 6 with (with_reducible refine store_tree rfl (.tmp 13) (.tmp 42) rfl rfl w5.heap.size a0 n0 c0 a1 n1 c1 a2 n2 c2 a3 n3 c3 rfl rfl _ (heap_alloc_new _ _) rfl ?_)
   have h13 : ((w5.alloc (.cells #[.slice none 0 0, .slice none 0 0, .slice none 0 0, .slice none 0 0] 35)).setRow w5.heap.size #[.slice a0 n0 c0, .slice a1 n1 c1, .slice a2 n2 c2, .slice a3 n3 c3]).heap[w5.heap.size]? = some (.cells #[.slice a0 n0 c0, .slice a1 n1 c1, .slice a2 n2 c2, .slice a3 n3 c3] 35) := setRow_heap _ _ _ _ _ _ (heap_alloc_new _ _)
   have hx := below_setRow (ext_alloc w5 (.cells #[.slice none 0 0, .slice none 0 0, .slice none 0 0, .slice none 0 0] 35)) (Nat.le_refl _) #[.slice a0 n0 c0, .slice a1 n1 c1, .slice a2 n2 c2, .slice a3 n3 c3]
   obtain ⟨w6, hW⟩ : ∃ ww, ww = (w5.alloc (.cells #[.slice none 0 0, .slice none 0 0, .slice none 0 0, .slice none 0 0] 35)).setRow w5.heap.size #[.slice a0 n0 c0, .slice a1 n1 c1, .slice a2 n2 c2, .slice a3 n3 c3] := ⟨_, rfl⟩
   rw [← hW] at h13 hx ⊢
   have H136 := Lib.hid h13
   have HF6 := Lib.hid (HF5.out.below hx)
   have HT6 := Lib.hid (far_below HT5.out hx)
   have HP6 := Lib.hid (vec_step HP5.out hx)
   have H96 := Lib.hid (vec_step H95.out hx)
   have HB6 := Lib.hid (HB5.out.trans (hx.mono HB5.out.size))
   have HIM6 := Lib.hid (HIM5.out.below hx)
   have HW06 := Lib.hid (HW05.out.below (hx.mono (Nat.le_trans HS4.out HS45.out)))
   have HW26 := Lib.hid (HW25.out.below (hx.mono (Nat.le_trans HS4.out HS45.out)))
   have HG13 := Lib.hid (show B1 ≤ w5.heap.size from Nat.le_trans HS4.out HS45.out)
   clear hW h13 hx HF5 HT5 HP5 H95 HB5 HIM5 HW05 HW25 HS45
   generalize w5.heap.size = g13 at H136 HG13 ⊢
   clear w5
   have CS := Lib.hid (sameMesh_eq _ _ m w6 HIM6.out (HM.out.below HB6.out))
   have p0 := cell_row HP6.out 0 _ rfl
   have p1 := cell_row HP6.out 1 _ rfl
   have p2 := cell_row HP6.out 2 _ rfl
   have i0 := cell_row H96.out 0 _ rfl
   have i1 := cell_row H96.out 1 _ rfl
   have i2 := cell_row H96.out 2 _ rfl
   go_wp2_with fail
   refine CS.out.mono ?_
   rintro e w7 ⟨rfl, hb⟩
   have H137 := Lib.hid (vec_step H136.out hb)
   have HF7 := Lib.hid (HF6.out.below hb)
   have HT7 := Lib.hid (far_below HT6.out hb)
   have HP7 := Lib.hid (vec_step HP6.out hb)
   have H97 := Lib.hid (vec_step H96.out hb)
   have HB7 := Lib.hid (HB6.out.trans (hb.mono HB6.out.size))
   have HS6 := Lib.hid (show B1 ≤ w6.heap.size from Nat.le_of_lt (Base.lt_of_heap H96.out))
   have HW07 := Lib.hid (HW06.out.below (hb.mono HS6.out))
   have HW27 := Lib.hid (HW26.out.below (hb.mono HS6.out))
   clear hb p0 p1 p2 i0 i1 i2 CS H136 HF6 HT6 HP6 H96 HB6 HIM6 HW06 HW26 HS6
   clear w6
   go_wp2_with fail
   go_loopg [16] n2 (fun r nn_ wr => ∃ k : Nat, k + r = n2 ∧ nn_ = .int .i64 (k : Int) ∧ Hid (Keeps (fun j => B0 ≤ j ∧ j < B1) w7 wr ∧ SlotW 46 3 B0 B1 wr x0 n0 ∧ SlotW 51 4 B0 B1 wr x2 n2))
   case atStart => exact ⟨0, by omega, rfl, Lib.hid ⟨Keeps.refl _ _, HW07.out, HW27.out⟩⟩
   case round =>
    obtain ⟨k, hkr, rfl, hin⟩ := hrel
    have H98 := Lib.hid (keep_cell hin.out.1 H97.out (fun e => by omega))
    by_cases hk : k < n2
    ·
     have d1 : decide ((k : Int) < (n2 : Int)) = true := decide_eq_true (by omega)
     have d1b : decide (k < n2) = true := decide_eq_true hk
     have HMS := Lib.hid (show n2 - (k + 1) < gk by omega)
     have HKR := Lib.hid (show k + 1 + (n2 - (k + 1)) = n2 by omega)
     obtain ⟨gs, cur, e9, hg0, hg1, hgr, hgs⟩ := hin.out.2.2 (by omega)
     subst e9
     have HTH := Lib.hid (show wr.there gs (k * 4) 4 from there_row hgr (by omega))
     have HGG := Lib.hid (And.intro hg0 hg1)
     have i5 : IntKind.i64.wrap ((k : Int) + 1) = ((k + 1 : Nat) : Int) := by have := HN4.out; rw [wrap_in (by omega) (by omega)]; omega
     have HIN := hin
     clear hin hg0 hg1 hgr hgs hkr
     have q9 := cell_row H98.out 2 _ rfl
     go_wp2_with (with_reducible refine store_ballz rfl (.tmp 77) (.tmp 76) rfl rfl gs (k * 4) rfl rfl HTH.out ?_)
     go_roundg (n2 - (k + 1))
     case measure => exact HMS.out
     case rel => exact ⟨k + 1, HKR.out, by first | rfl | go_num, Lib.hid ⟨setCells_keeps HGG.out _ _ _ _ HIN.out.1, SlotW.set (E2 := 46) (c2 := 0) HIN.out.2.1 _, SlotW.set (E2 := 46) (c2 := 0) HIN.out.2.2 _⟩⟩
    ·
     have d1 : decide ((k : Int) < (n2 : Int)) = false := decide_eq_false (by omega)
     have d1b : decide (k < n2) = false := decide_eq_false hk
     have q9 := cell_row H98.out 2 _ rfl
     have HIN := hin
     clear hin hkr hk H98
     go_upto_region 14 with (fail)
     clear d1 d1b q9
     go_wp2_with fail
     go_loopg [17] n0 (fun r nn_ wr => ∃ k : Nat, k + r = n0 ∧ nn_ = .int .i64 (k : Int) ∧ Hid (Keeps (fun j => B0 ≤ j ∧ j < B1) w7 wr ∧ SlotW 46 3 B0 B1 wr x0 n0 ∧ SlotW 51 4 B0 B1 wr x2 n2))
     case atStart => exact ⟨0, by omega, rfl, HIN⟩
     case round =>
      obtain ⟨k, hkr, rfl, hin⟩ := hrel
      have H98 := Lib.hid (keep_cell hin.out.1 H97.out (fun e => by omega))
      by_cases hk : k < n0
      ·
       have d1 : decide ((k : Int) < (n0 : Int)) = true := decide_eq_true (by omega)
       have d1b : decide (k < n0) = true := decide_eq_true hk
       have HMS := Lib.hid (show n0 - (k + 1) < gk by omega)
       have HKR := Lib.hid (show k + 1 + (n0 - (k + 1)) = n0 by omega)
       obtain ⟨gs, cur, e9, hg0, hg1, hgr, hgs⟩ := hin.out.2.1 (by omega)
       subst e9
       have HTH := Lib.hid (show wr.there gs (k * 3) 3 from there_row hgr (by omega))
       have HGG := Lib.hid (And.intro hg0 hg1)
       have i5 : IntKind.i64.wrap ((k : Int) + 1) = ((k + 1 : Nat) : Int) := by have := HN4.out; rw [wrap_in (by omega) (by omega)]; omega
       have HIN := hin
       clear hin hg0 hg1 hgr hgs hkr
       have q9 := cell_row H98.out 0 _ rfl
       go_wp2_with (with_reducible refine store_vecz rfl (.tmp 89) (.tmp 88) rfl rfl gs (k * 3) rfl rfl HTH.out ?_)
       go_roundg (n0 - (k + 1))
       case measure => exact HMS.out
       case rel => exact ⟨k + 1, HKR.out, by first | rfl | go_num, Lib.hid ⟨setCells_keeps HGG.out _ _ _ _ HIN.out.1, SlotW.set (E2 := 46) (c2 := 0) HIN.out.2.1 _, SlotW.set (E2 := 46) (c2 := 0) HIN.out.2.2 _⟩⟩
      ·
       have d1 : decide ((k : Int) < (n0 : Int)) = false := decide_eq_false (by omega)
       have d1b : decide (k < n0) = false := decide_eq_false hk
       have q9 := cell_row H98.out 0 _ rfl
       have HIN := hin
       clear hin hkr hk H98
       go_upto_region 18 with (fail)
       clear d1 d1b q9
       have HK := Lib.hid HIN.out.1
       have HZ13 := Lib.hid (keep_cell HK.out H137.out (fun e => by have := HG13.out; omega))
       have HFZ := Lib.hid (HF7.out.keep HK.out (fun k e => by have := HS4.out; omega))
       have HTZ := Lib.hid (tree_keep HT7.out HK.out (fun k e => by have := HSZ9.out; omega))
       have HBZ := Lib.hid (HB7.out.trans (HK.out.below w.heap.size HB7.out.size (fun k e => by have := HBB.out; omega)))
       clear HK HIN H137 HF7 HT7 HP7 H97 HB7 HW07 HW27
       have HCL := Lib.hid (show cntM m ≤ 4096 by have := HCN.out; omega)
       have CSZ := Lib.hid (rsize_any m wr a0 n0 c0 a1 n1 c1 a2 n2 c2 a3 n3 c3 _ HFZ.out HCL.out)
       obtain ⟨nn, hnn⟩ : ∃ x, x = (flatM m).length := ⟨_, rfl⟩
       obtain ⟨dm, hdm⟩ : ∃ x, x = deepM m := ⟨_, rfl⟩
       have HEQ := Lib.hid (And.intro hnn hdm)
       rw [← hnn, ← hdm] at CSZ
       clear hnn hdm
       have CN := Lib.hid (fun w2 (h : TreeAt w2 g m) => (show Calls Tryz.prog 9 #[.pointer (some ⟨g, 0, none⟩)] w2 (fun e w' => e = .returned (.int .i64 (nn : Int)) ∧ w2 = w') by rw [HEQ.out.1]; exact tree_nodes h))
       have CD := Lib.hid (fun w2 (h : TreeAt w2 g m) => (show Calls Tryz.prog 10 #[.pointer (some ⟨g, 0, none⟩)] w2 (fun e w' => e = .returned (.int .i64 (dm : Int)) ∧ w2 = w') by rw [HEQ.out.2]; exact tree_deep h))
       have r0 := cell_row HZ13.out 0 _ rfl
       have r1 := cell_row HZ13.out 1 _ rfl
       have r2 := cell_row HZ13.out 2 _ rfl
       have r3 := cell_row HZ13.out 3 _ rfl
       go_wp2_with fail
       refine CSZ.out.mono ?_
       rintro e z1 ⟨rfl, hb⟩
       have HY13 := Lib.hid (vec_step HZ13.out hb)
       have HFY := Lib.hid (HFZ.out.below hb)
       have HTY := Lib.hid (HTZ.out.below hb)
       have HBY := Lib.hid (HBZ.out.trans (hb.mono HBZ.out.size))
       clear hb r0 r1 r2 r3 CSZ HZ13 HFZ HTZ HBZ
       go_wp2_with fail
       refine (CN.out _ HTY.out).mono ?_
       rintro e _ ⟨rfl, rfl⟩
       go_wp2_with fail
       refine (CD.out _ HTY.out).mono ?_
       rintro e _ ⟨rfl, rfl⟩
       clear CN CD
       go_wp2_with fail
       go_loopg [20] 20 (fun r n20 wr => ∃ k : Nat, k + r = 20 ∧ n20 = .int .i64 (k : Int) ∧ Hid (Below z1.heap.size z1 wr))
       case atStart => exact ⟨0, rfl, rfl, Lib.hid (Below.refl _ _)⟩
       case round =>
        obtain ⟨k, hkr, rfl, hin⟩ := hrel
        have HIN := Lib.hid hin.out
        have HB9 := Lib.hid (HBY.out.trans (hin.out.mono HBY.out.size))
        have H139 := Lib.hid (vec_step HY13.out hin.out)
        have HF9 := Lib.hid (HFY.out.below hin.out)
        have HT9 := Lib.hid (HTY.out.below hin.out)
        clear hin
        by_cases hk1 : k < RL
        ·
         have d1 : decide ((k : Int) < (RL : Int)) = true := decide_eq_true (by omega)
         have d1b : decide (k < RL) = true := decide_eq_true hk1
         by_cases hk2 : k < 20
         ·
          have d2 : decide ((k : Int) < 20) = true := decide_eq_true (by omega)
          have d2b : decide (k < 20) = true := decide_eq_true hk2
          have HMS := Lib.hid (show 20 - (k + 1) < gk by omega)
          have HKR := Lib.hid (show k + 1 + (20 - (k + 1)) = 20 by omega)
          have i5 : IntKind.i64.wrap ((k : Int) + 1) = ((k + 1 : Nat) : Int) := by rw [wrap_in (by omega) (by omega)]; omega
          have hkl : k < rs.length := by have h := HNL.out.2.2.2; omega
          obtain ⟨br, orr, rfl, hbr, q0, q1, q2, q3, q4, q5⟩ := ray_at (HRS.out.below HB9.out (Nat.le_refl _)) k hkl
          obtain ⟨rk, hrk⟩ : ∃ x, x = rs[k] := ⟨_, rfl⟩
          have HRK := Lib.hid (show rk.ok by rw [hrk]; exact HRO.out _ (List.getElem_mem hkl))
          rw [← hrk] at q0 q1 q2 q3 q4 q5
          have CNR := Lib.hid (fun w2 (h : TreeAt w2 g m) => near_any w2 g m h HOK.out HCL.out rk HRK.out least)
          have CRN := Lib.hid (fun w2 (h : FirstAt w4.heap.size m w2 a3 n3) (hm : IsMesh w2 (.agg #[.slice a0 n0 c0, .slice a1 n1 c1, .slice a2 n2 c2]) m) => rnear_any m w2 HOK.out rk HRK.out least a0 n0 c0 a1 n1 c1 a2 n2 c2 a3 n3 c3 _ hm h HCL.out)
          obtain ⟨res, hres⟩ : ∃ x, x = nearestF m rk least := ⟨_, rfl⟩
          rw [← hres] at CNR CRN
          obtain ⟨⟨ht, hi_, hu, hv⟩, co⟩ := res
          obtain ⟨⟨oX, oY, oZ⟩, ⟨dX, dY, dZ⟩⟩ := rk
          dsimp only [rayV, hitV] at CNR CRN q0 q1 q2 q3 q4 q5
          have CNX := Lib.hid (fun w2 (h : TreeAt w2 g m) => (show Calls Tryz.prog 11 #[.pointer (some ⟨g, 0, none⟩), .agg #[.int .i64 oX, .int .i64 oY, .int .i64 oZ, .int .i64 dX, .int .i64 dY, .int .i64 dZ], .int .i64 least] w2 (VTo (.tuple #[.agg #[.int .i64 ht, .int .i64 hi_, .int .i64 hu, .int .i64 hv], .int .i64 (co : Int)]) w2) from CNR.out w2 h))
          have EQ := EQH ht hi_ hu hv
          have HKL := Lib.hid hk1
          have I5 := Lib.hid i5
          clear hk2 hkr hkl hrk hres CNR i5
          go_wp2_with fail
          refine (CNX.out _ HT9.out).mono ?_
          rintro e y1 ⟨rfl, hb⟩
          have HB1 := Lib.hid (HB9.out.trans (hb.mono HB9.out.size))
          have H131 := Lib.hid (vec_step H139.out hb)
          have HF1 := Lib.hid (HF9.out.below hb)
          have HT1 := Lib.hid (HT9.out.below hb)
          have HI1 := Lib.hid (HIN.out.trans (hb.mono HIN.out.size))
          have s0 := (hb.cell (p := ⟨br, orr + k * 6, none⟩) hbr).trans q0
          have s1 := (hb.cell (p := ⟨br, orr + k * 6 + 1, none⟩) hbr).trans q1
          have s2 := (hb.cell (p := ⟨br, orr + k * 6 + 2, none⟩) hbr).trans q2
          have s3 := (hb.cell (p := ⟨br, orr + k * 6 + 3, none⟩) hbr).trans q3
          have s4 := (hb.cell (p := ⟨br, orr + k * 6 + 4, none⟩) hbr).trans q4
          have s5 := (hb.cell (p := ⟨br, orr + k * 6 + 5, none⟩) hbr).trans q5
          have hbr1 := Nat.lt_of_lt_of_le hbr hb.size
          clear q0 q1 q2 q3 q4 q5 hb hbr HB9 H139 HF9 HT9 HIN d1 d1b d2 d2b CNX
          go_upto_region 25 with (with_reducible refine store_hit rfl (.tmp 21) (.tmp 123) rfl rfl y1.heap.size ht hi_ hu hv rfl rfl _ (heap_alloc_new _ _) rfl ?_)
          have hx : Below y1.heap.size y1 ((y1.alloc (.cells #[.int .i64 0, .int .i64 0, .int .i64 0, .int .i64 0] 42)).setRow y1.heap.size #[.int .i64 ht, .int .i64 hi_, .int .i64 hu, .int .i64 hv]) := below_setRow (ext_alloc y1 (.cells #[.int .i64 0, .int .i64 0, .int .i64 0, .int .i64 0] 42)) (Nat.le_refl _) _
          have hn : ((y1.alloc (.cells #[.int .i64 0, .int .i64 0, .int .i64 0, .int .i64 0] 42)).setRow y1.heap.size #[.int .i64 ht, .int .i64 hi_, .int .i64 hu, .int .i64 hv]).heap[y1.heap.size]? = some (.cells #[.int .i64 ht, .int .i64 hi_, .int .i64 hu, .int .i64 hv] 42) := setRow_heap _ _ _ _ _ _ (heap_alloc_new _ _)
          obtain ⟨y2, hW⟩ : ∃ ww, ww = (y1.alloc (.cells #[.int .i64 0, .int .i64 0, .int .i64 0, .int .i64 0] 42)).setRow y1.heap.size #[.int .i64 ht, .int .i64 hi_, .int .i64 hu, .int .i64 hv] := ⟨_, rfl⟩
          rw [← hW] at hx hn ⊢
          have HH := Lib.hid hn
          have HB2 := Lib.hid (HB1.out.trans (hx.mono HB1.out.size))
          have H132 := Lib.hid (vec_step H131.out hx)
          have HF2 := Lib.hid (HF1.out.below hx)
          have HI2 := Lib.hid (HI1.out.trans (hx.mono HI1.out.size))
          have HBR := Lib.hid (Nat.lt_of_lt_of_le hbr1 hx.size)
          have S0 := Lib.hid ((hx.cell (p := ⟨br, orr + k * 6, none⟩) hbr1).trans s0)
          have S1 := Lib.hid ((hx.cell (p := ⟨br, orr + k * 6 + 1, none⟩) hbr1).trans s1)
          have S2 := Lib.hid ((hx.cell (p := ⟨br, orr + k * 6 + 2, none⟩) hbr1).trans s2)
          have S3 := Lib.hid ((hx.cell (p := ⟨br, orr + k * 6 + 3, none⟩) hbr1).trans s3)
          have S4 := Lib.hid ((hx.cell (p := ⟨br, orr + k * 6 + 4, none⟩) hbr1).trans s4)
          have S5 := Lib.hid ((hx.cell (p := ⟨br, orr + k * 6 + 5, none⟩) hbr1).trans s5)
          clear hn hx hW s0 s1 s2 s3 s4 s5 hbr1 HB1 H131 HF1 HT1 HI1
          generalize y1.heap.size = gH at HH ⊢
          clear y1
          refine wp_region_free 144 [0, 1, 2, 3, 4, 5, 6, 7, 8, 9, 12] [⟨10, 23, #[.int .i64 0, .int .i64 0, .int .i64 0, .int .i64 0], 42, 11, 133, #[.int .i64 ht, .int .i64 hi_, .int .i64 hu, .int .i64 hv]⟩] (by kernel_rfl) rfl (by kernel_rfl) (by
           intro x hx
           simp only [List.mem_cons, List.not_mem_nil, or_false] at hx
           subst hx
           exact ⟨⟨_, rfl, ⟨⟨_, rfl, alloc_hitY⟩, rfl, rfl⟩⟩, _, rfl, ⟨⟨_, rfl, hit_size⟩, rfl, rfl, rfl, BvhY.row_one4 _ _ _ _⟩⟩) ?_
          refine Walk.step (A := ?Ag0) (o := ?og0) ?eg0 ?wg0 126 ?dg0 (by simp) ?hg0 ?ng0
          case eg0 => simp only [List.getElem?_toArray, List.getElem?_cons_succ, List.getElem?_cons_zero]; exact rfl
          case wg0 => exact rfl
          case dg0 => exact rfl
          case hg0 =>
           intro W9 hW9
           have z0 := fun d os => cell_regrown (cell_row (vec_step H132.out hW9) 0 _ rfl) d os
           have z1 := fun d os => cell_regrown (cell_row (vec_step H132.out hW9) 1 _ rfl) d os
           have z2 := fun d os => cell_regrown (cell_row (vec_step H132.out hW9) 2 _ rfl) d os
           have z3 := fun d os => cell_regrown (cell_row (vec_step H132.out hW9) 3 _ rfl) d os
           go_big_quiet_op
           exact rfl
          refine Walk.step (A := ?Ag1) (o := ?og1) ?eg1 ?wg1 127 ?dg1 (by simp) ?hg1 ?ng1
          case eg1 => simp only [List.getElem?_toArray, List.getElem?_cons_succ, List.getElem?_cons_zero]; exact rfl
          case wg1 => exact rfl
          case dg1 => exact rfl
          case hg1 =>
           intro W9 hW9
           go_big_quiet_op
           exact rfl
          refine Walk.step (A := ?Ag2) (o := ?og2) ?eg2 ?wg2 128 ?dg2 (by simp) ?hg2 ?ng2
          case eg2 => simp only [List.getElem?_toArray, List.getElem?_cons_succ, List.getElem?_cons_zero]; exact rfl
          case wg2 => exact rfl
          case dg2 => exact rfl
          case hg2 =>
           intro W9 hW9
           go_big_quiet_op
           exact rfl
          refine Walk.step (A := ?Ag3) (o := ?og3) ?eg3 ?wg3 129 ?dg3 (by simp) ?hg3 ?ng3
          case eg3 => simp only [List.getElem?_toArray, List.getElem?_cons_succ, List.getElem?_cons_zero]; exact rfl
          case wg3 => exact rfl
          case dg3 => exact rfl
          case hg3 =>
           intro W9 hW9
           have z0 := HKL.out
           go_big_quiet_op
           exact rfl
          refine Walk.step (A := ?Ag4) (o := ?og4) ?eg4 ?wg4 130 ?dg4 (by simp) ?hg4 ?ng4
          case eg4 => simp only [List.getElem?_toArray, List.getElem?_cons_succ, List.getElem?_cons_zero]; exact rfl
          case wg4 => exact rfl
          case dg4 => exact rfl
          case hg4 =>
           intro W9 hW9
           have z0 := fun d os => cell_regrown ((hW9.cell (p := ⟨br, orr + k * 6, none⟩) HBR.out).trans S0.out) d os
           have z1 := fun d os => cell_regrown ((hW9.cell (p := ⟨br, orr + k * 6 + 1, none⟩) HBR.out).trans S1.out) d os
           have z2 := fun d os => cell_regrown ((hW9.cell (p := ⟨br, orr + k * 6 + 2, none⟩) HBR.out).trans S2.out) d os
           have z3 := fun d os => cell_regrown ((hW9.cell (p := ⟨br, orr + k * 6 + 3, none⟩) HBR.out).trans S3.out) d os
           have z4 := fun d os => cell_regrown ((hW9.cell (p := ⟨br, orr + k * 6 + 4, none⟩) HBR.out).trans S4.out) d os
           have z5 := fun d os => cell_regrown ((hW9.cell (p := ⟨br, orr + k * 6 + 5, none⟩) HBR.out).trans S5.out) d os
           go_big_quiet_op
           exact rfl
          refine Walk.step (A := ?Ag5) (o := ?og5) ?eg5 ?wg5 131 ?dg5 (by simp) ?hg5 ?ng5
          case eg5 => simp only [List.getElem?_toArray, List.getElem?_cons_succ, List.getElem?_cons_zero]; exact rfl
          case wg5 => exact rfl
          case dg5 => exact rfl
          case hg5 =>
           intro W9 hW9
           go_big_quiet_op
           exact rfl
          refine Walk.step (A := ?Ag6) (o := ?og6) ?eg6 ?wg6 132 ?dg6 (by simp) ?hg6 ?ng6
          case eg6 => simp only [List.getElem?_toArray, List.getElem?_cons_succ, List.getElem?_cons_zero]; exact rfl
          case wg6 => exact rfl
          case dg6 => exact rfl
          case hg6 =>
           intro W9 hW9
           have Q9 := qb (P := Tryz.prog) (W := W9) (fun w2 hb => CRN.out w2 (HF2.out.below (hW9.trans (hb.mono hW9.size))) (HM.out.below (HB2.out.trans ((hW9.trans (hb.mono hW9.size)).mono HB2.out.size))))
           go_big_quiet_op
           apply Exists.intro
           refine ⟨fun _ => ?_, ?_⟩
           ·
            with_reducible exact Q9 _ _
           ·
            exact rfl
          refine Walk.step (A := ?Ag7) (o := ?og7) ?eg7 ?wg7 125 ?dg7 (by simp) ?hg7 ?ng7
          case eg7 => simp only [List.getElem?_toArray, List.getElem?_cons_succ, List.getElem?_cons_zero]; exact rfl
          case wg7 => exact rfl
          case dg7 => exact rfl
          case hg7 =>
           intro W9 hW9
           go_big_quiet_op
           exact rfl
          refine Walk.step (A := ?Ag8) (o := ?og8) ?eg8 ?wg8 133 ?dg8 (by simp) ?hg8 ?ng8
          case eg8 => simp only [List.getElem?_toArray, List.getElem?_cons_succ, List.getElem?_cons_zero]; exact rfl
          case wg8 => exact rfl
          case dg8 => exact rfl
          case hg8 =>
           intro W9 hW9
           go_big_quiet_op
           exact rfl
          refine Walk.step (A := ?Ag9) (o := ?og9) ?eg9 ?wg9 134 ?dg9 (by simp) ?hg9 ?ng9
          case eg9 => simp only [List.getElem?_toArray, List.getElem?_cons_succ, List.getElem?_cons_zero]; exact rfl
          case wg9 => exact rfl
          case dg9 => exact rfl
          case hg9 =>
           intro W9 hW9
           go_big_quiet_op
           exact rfl
          refine Walk.step (A := ?Ag10) (o := ?og10) ?eg10 ?wg10 24 ?dg10 (by simp) ?hg10 ?ng10
          case eg10 => simp only [List.getElem?_toArray, List.getElem?_cons_succ, List.getElem?_cons_zero]; exact rfl
          case wg10 => exact rfl
          case dg10 => exact rfl
          case hg10 =>
           intro W9 hW9
           go_big_quiet_op
           exact rfl
          refine ⟨?_, ?_⟩
          ·
           intro x hx
           simp only [List.mem_cons, List.not_mem_nil, or_false] at hx
           subst hx
           rfl
          intro G hG hne y3 hb hk9
          have k9 := hk9 _ (List.mem_cons_self ..)
          dsimp only at k9
          clear hG hne hk9
          simp only [lay, Act.put, List.setIfInBounds_toArray, List.set_cons_succ, List.set_cons_zero, ptr]
          generalize G 10 = gI at k9 ⊢
          clear G
          have HH3 := Lib.hid (vec_step HH.out hb)
          have HI := Lib.hid k9
          have HI3 := Lib.hid (HI2.out.trans (hb.mono HI2.out.size))
          clear k9 hb HH H132 HF2 HI2 HB2 CRN S0 S1 S2 S3 S4 S5
          have e0 := cell_row HH3.out 0 _ rfl
          have e1 := cell_row HH3.out 1 _ rfl
          have e2 := cell_row HH3.out 2 _ rfl
          have e3 := cell_row HH3.out 3 _ rfl
          have f0 := cell_row HI.out 0 _ rfl
          have f1 := cell_row HI.out 1 _ rfl
          have f2 := cell_row HI.out 2 _ rfl
          have f3 := cell_row HI.out 3 _ rfl
          have i5 := I5.out
          go_wp2_with fail
          go_roundg (20 - (k + 1))
          case measure => exact HMS.out
          case rel => exact ⟨k + 1, HKR.out, by first | rfl | go_num, HI3⟩
         ·
          have d2 : decide ((k : Int) < 20) = false := decide_eq_false (by omega)
          have d2b : decide (k < 20) = false := decide_eq_false hk2
          go_wp2_with fail
          refine (HAW.out _).mono ?_
          rintro e y1 ⟨rfl, hb⟩
          have HF := Lib.hid (HB9.out.trans (hb.mono HB9.out.size))
          go_wp2_with fail
          go_ret
          exact ⟨rfl, HF.out⟩
        ·
         have d1 : decide ((k : Int) < (RL : Int)) = false := decide_eq_false (by omega)
         have d1b : decide (k < RL) = false := decide_eq_false hk1
         go_wp2_with fail
         refine (HAW.out _).mono ?_
         rintro e y1 ⟨rfl, hb⟩
         have HF := Lib.hid (HB9.out.trans (hb.mono HB9.out.size))
         go_wp2_with fail
         go_ret
         exact ⟨rfl, HF.out⟩
  ·
   obtain ⟨ec, hec, CB, CR⟩ := both_fail m HOK.out HL1.out steps hA
   have HCB := Lib.hid (CB _ w3 HIM3.out)
   have HCR := Lib.hid (fun w2 (h : IsMesh w2 (.agg #[.slice a0 n0 c0, .slice a1 n1 c1, .slice a2 n2 c2]) m) => CR a0 n0 c0 a1 n1 c1 a2 n2 c2 w2 h)
   have d0 : decide (ec = 0) = false := decide_eq_false hec
   clear CB CR hA
   have i0 := cell_row H93.out 0 _ rfl
   have i1 := cell_row H93.out 1 _ rfl
   have i2 := cell_row H93.out 2 _ rfl
   go_wp2_with fail
   refine HCB.out.mono ?_
   rintro e w4 ⟨rfl, hb⟩
   have HP4 := Lib.hid (vec_step HP3.out hb)
   have H94 := Lib.hid (vec_step H93.out hb)
   have HB4 := Lib.hid (HB3.out.trans (hb.mono HB3.out.size))
   have HIM4 := Lib.hid (HIM3.out.below hb)
   clear hb i0 i1 i2 HCB HP3 H93 HB3 HIM3 HW03 HW23
   have p0 := cell_row HP4.out 0 _ rfl
   have p1 := cell_row HP4.out 1 _ rfl
   have p2 := cell_row HP4.out 2 _ rfl
   have CR2 := Lib.hid (HCR.out w4 (HM.out.below HB4.out))
   go_wp2_with fail
   refine CR2.out.mono ?_
   rintro e w5 ⟨rfl, hb⟩
   have HP5 := Lib.hid (vec_step HP4.out hb)
   have H95 := Lib.hid (vec_step H94.out hb)
   have HB5 := Lib.hid (HB4.out.trans (hb.mono HB4.out.size))
   have HIM5 := Lib.hid (HIM4.out.below hb)
   clear hb p0 p1 p2 CR2 HCR HP4 H94 HB4 HIM4
   go_upto_region 6 with (with_reducible refine store_tree rfl (.tmp 13) (.tmp 42) rfl rfl w5.heap.size none 0 0 none 0 0 none 0 0 none 0 0 rfl rfl _ (heap_alloc_new _ _) rfl ?_)
   have hx := below_setRow (ext_alloc w5 (.cells #[.slice none 0 0, .slice none 0 0, .slice none 0 0, .slice none 0 0] 35)) (Nat.le_refl _) #[.slice none 0 0, .slice none 0 0, .slice none 0 0, .slice none 0 0]
   obtain ⟨w6, hW⟩ : ∃ ww, ww = (w5.alloc (.cells #[.slice none 0 0, .slice none 0 0, .slice none 0 0, .slice none 0 0] 35)).setRow w5.heap.size #[.slice none 0 0, .slice none 0 0, .slice none 0 0, .slice none 0 0] := ⟨_, rfl⟩
   rw [← hW] at hx ⊢
   have HP6 := Lib.hid (vec_step HP5.out hx)
   have H96 := Lib.hid (vec_step H95.out hx)
   have HB6 := Lib.hid (HB5.out.trans (hx.mono HB5.out.size))
   have HIM6 := Lib.hid (HIM5.out.below hx)
   clear hW hx HP5 H95 HB5 HIM5
   generalize w5.heap.size = g13
   clear w5
   have CS := Lib.hid (sameMesh_eq _ _ m w6 HIM6.out (HM.out.below HB6.out))
   have p0 := cell_row HP6.out 0 _ rfl
   have p1 := cell_row HP6.out 1 _ rfl
   have p2 := cell_row HP6.out 2 _ rfl
   have i0 := cell_row H96.out 0 _ rfl
   have i1 := cell_row H96.out 1 _ rfl
   have i2 := cell_row H96.out 2 _ rfl
   go_wp2_with fail
   refine CS.out.mono ?_
   rintro e w7 ⟨rfl, hb⟩
   have HB7 := Lib.hid (HB6.out.trans (hb.mono HB6.out.size))
   clear hb p0 p1 p2 i0 i1 i2 CS HP6 H96 HB6 HIM6
   clear w6
   go_wp2_with fail
   refine (HAW.out _).mono ?_
   rintro e y1 ⟨rfl, hb⟩
   have HF := Lib.hid (HB7.out.trans (hb.mono HB7.out.size))
   go_wp2_with fail
   go_ret
   exact ⟨rfl, HF.out⟩end Go.Proofs.YtdaokkgenfpmhaaGreat.BvhTa

