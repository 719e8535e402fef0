/- The walk of the box around some shapes. -/
import Derived.Test.YtdaokkgenfpmhaaBvhU
import Derived.BigRegion
import Derived.Deep.CutRange
set_option linter.unusedVariables false
set_option linter.unusedSimpArgs false
namespace Go.Proofs.Ytdaokkgenfpmhaa.BvhV
open Go Go.RowKit Go.Sort Go.Lib FixM Base Num FixW Qb Qt Qa Qf VecW VecV VecU LightQ LightC MeshM Rec MeshA MeshD MeshP HitM HitX BvhM BvhA BvhB BvhS BvhT BvhU
theorem alloc_box (w : World) : (Instr.alloc 56 true (.tuple #[])).run Try.prog w = .ok (.pointer (some ⟨w.heap.size, 0, none⟩)) (w.alloc (.cells #[.int .i64 0, .int .i64 0, .int .i64 0, .int .i64 0, .int .i64 0, .int .i64 0] 56)) := by kernel_rfl
theorem row_one6 (a b c d e f : Int) : (#[Value.int .i64 a, .int .i64 b, .int .i64 c, .int .i64 d, .int .i64 e, .int .i64 f] : Array Value).all (·.oneCell') = true := by
  rw [Array.all_eq_true']; intro v hv; simp at hv; rcases hv with rfl | rfl | rfl | rfl | rfl | rfl <;> rfl
/-- the loop's state: the box so far in block g -/
structure Ab (w W wr : World) (g : Nat) (b : Bx) : Prop where
  row : wr.heap[g]? = some (.cells #[.int .i64 b.lo.x, .int .i64 b.lo.y, .int .i64 b.lo.z, .int .i64 b.hi.x, .int .i64 b.hi.y, .int .i64 b.hi.z] 56)
  hb : Below w.heap.size w wr
  k : Keeps (fun j => j = g) W wr
theorem two_sets {w W0 y Z : World} {gO gN i j : Nat} {cs cs2 : Array Value} {T : TypeId} {o2 : Obj} {vi vj : Value} (hr : y.heap[gO]? = some (.cells cs T)) (hn : y.heap[gN]? = some o2) (hne : gO ≠ gN) (hb : Below w.heap.size w y) (hB : w.heap.size ≤ gO) (hk : Keeps (fun j => j = gO) W0 y) (h2 : (cs.setIfInBounds i vi).setIfInBounds j vj = cs2) (hZ : Z = ((y.setCell ⟨gO, i, none⟩ vi).setCell ⟨gO, j, none⟩ vj).drew) :
    Z.heap[gO]? = some (.cells cs2 T) ∧ Z.heap[gN]? = some o2 ∧ Below w.heap.size w Z ∧ Keeps (fun j => j = gO) W0 Z := by
  subst h2 hZ
  have ek := (hk.setCell gO i vi (.inl rfl)).setCell gO j vj (.inl rfl)
  have ey := ((Keeps.refl (fun j => j = gO) y).setCell gO i vi (.inl rfl)).setCell gO j vj (.inl rfl)
  have ez : Keeps (fun j => j = gO) y ((y.setCell ⟨gO, i, none⟩ vi).setCell ⟨gO, j, none⟩ vj).drew := ⟨ey.os, ey.tape, ey.output, ey.size, ey.block⟩
  refine ⟨heap_setCell_same _ _ _ _ _ _ (heap_setCell_same _ _ _ _ _ _ hr), (heap_setCell_other _ _ _ _ (Ne.symm hne)).trans ((heap_setCell_other _ _ _ _ (Ne.symm hne)).trans hn), hb.trans (ez.below _ hb.size (fun k h => by rw [h]; exact hB)), ⟨ek.os, ek.tape, ek.output, ek.size, ek.block⟩⟩
set_option maxRecDepth 100000 in
set_option maxHeartbeats 16000000 in
theorem around_any (w : World) (gM gT : Nat) (vb vn v0 v1 v2 : Value) (st mo dp : Int) (blk cap : Nat) (bs : List Bx) (l : List Nat) (base : Nat) (h : MkAt w gM gT vb vn v0 v1 v2 st mo dp blk cap bs l base) (hl : ∀ i ∈ l, i < bs.length) (f t : Nat) (hft : f < t) (ht : t ≤ l.length) (hll : l.length ≤ 4611686018427387903) :
    Calls Try.prog 39 #[.pointer (some ⟨gM, 0, none⟩), .int .i64 (f : Int), .int .i64 (t : Int)] w (VTo (boxV (boxS bs ((l.drop f).take (t - f)))) w) := by
  rw [← boxTo_all bs l f t hft ht]
  have H0 := Lib.hid (boxTo_zero bs l f)
  have HX := Lib.hid (fun k h => boxTo_next bs l f k h)
  generalize boxTo bs l f = bt at H0 HX ⊢
  have hcap := cap_of h.o
  have hA := heap_alloc_new w (.cells #[.int .i64 0, .int .i64 0, .int .i64 0, .int .i64 0, .int .i64 0, .int .i64 0] 56)
  have hB0 := ext_alloc w (.cells #[.int .i64 0, .int .i64 0, .int .i64 0, .int .i64 0, .int .i64 0, .int .i64 0] 56)
  obtain ⟨W, hW⟩ : ∃ ww, ww = w.alloc (.cells #[.int .i64 0, .int .i64 0, .int .i64 0, .int .i64 0, .int .i64 0, .int .i64 0] 56) := ⟨_, rfl⟩
  rw [← hW] at hA hB0
  have HZ0 := Lib.hid hA
  have HB0 := Lib.hid hB0
  have HM0 := Lib.hid (vec_step h.m hB0)
  have HT0 := Lib.hid (vec_step h.t hB0)
  have HRB := Lib.hid h.b
  have HRO := Lib.hid h.o
  have HLK := Lib.hid hl
  have HNE := Lib.hid (Base.lt_of_heap h.m)
  obtain ⟨ab, capb, hvb, -⟩ := h.b.open_
  have HWW := Lib.hid hW
  clear hA hB0 hW h hl
  subst hvb
  have hf : f < l.length := by omega
  have HF := Lib.hid (HLK.out l[f] (List.getElem_mem hf))
  obtain ⟨i0, hi0⟩ : ∃ i, i = l[f] := ⟨_, rfl⟩
  rw [← hi0] at HF
  have e0 : bs.getD (l.getD f 0) zeroB = bs[i0]'HF.out := by
    have e1 : l.getD f 0 = i0 := by rw [hi0]; simp [hf]
    rw [e1]
    simp [HF.out]
  have HE := Lib.hid (H0.out.trans e0)
  clear H0 e0
  go_enter Try.func39, Try.ntmps39
  go_upto_region 1 with (fail)
  rw [← HWW.out]
  clear HWW
  have KM := Lib.hid (fun W9 (hb : Below W.heap.size W W9) => vec_step HM0.out hb)
  have KT := Lib.hid (fun W9 (hb : Below W.heap.size W W9) => vec_step HT0.out hb)
  have KO : Hid (∀ W9, Below W.heap.size W W9 → ∀ d os, (grow (redrawn W9 d) os).cell? ⟨blk, f, none⟩ = some (.int .i64 (i0 : Int))) := by
    refine Lib.hid (fun W9 hb => ?_)
    obtain ⟨g, cp, e, -, -, -, hc, -, -⟩ := ((HRO.out.below HB0.out (Nat.le_refl _)).below hb (Nat.le_refl _)).at_ (by omega)
    simp only [Value.slice.injEq, Option.some.injEq, Addr.mk.injEq, and_true, true_and] at e
    obtain ⟨rfl, -⟩ := e
    have := hc f hf
    rw [← hi0] at this
    exact fun d os => cell_regrown this d os
  obtain ⟨bb, ob, eb, -, -⟩ := at6 HRB.out i0 HF.out
  subst eb
  obtain ⟨bx, hbx⟩ : ∃ z, z = bs[i0]'HF.out := ⟨_, rfl⟩
  rw [← hbx] at HE
  have KB : Hid (∀ W9, Below W.heap.size W W9 → (∀ d os, (grow (redrawn W9 d) os).cell? ⟨bb, ob + i0 * 6, none⟩ = some (.int .i64 bx.lo.x)) ∧ (∀ d os, (grow (redrawn W9 d) os).cell? ⟨bb, ob + i0 * 6 + 1, none⟩ = some (.int .i64 bx.lo.y)) ∧ (∀ d os, (grow (redrawn W9 d) os).cell? ⟨bb, ob + i0 * 6 + 2, none⟩ = some (.int .i64 bx.lo.z)) ∧ (∀ d os, (grow (redrawn W9 d) os).cell? ⟨bb, ob + i0 * 6 + 3, none⟩ = some (.int .i64 bx.hi.x)) ∧ (∀ d os, (grow (redrawn W9 d) os).cell? ⟨bb, ob + i0 * 6 + 4, none⟩ = some (.int .i64 bx.hi.y)) ∧ (∀ d os, (grow (redrawn W9 d) os).cell? ⟨bb, ob + i0 * 6 + 5, none⟩ = some (.int .i64 bx.hi.z))) := by
    refine Lib.hid (fun W9 hb => ?_)
    obtain ⟨b5, off5, e5, _, q0, q1, q2, q3, q4, q5⟩ := at6 ((HRB.out.below HB0.out (Nat.le_refl _)).below hb (Nat.le_refl _)) i0 HF.out
    simp only [Option.some.injEq, Addr.mk.injEq, and_true] at e5
    obtain ⟨rfl, rfl⟩ := e5
    rw [← hbx] at q0 q1 q2 q3 q4 q5
    exact ⟨fun d os => cell_regrown q0 d os, fun d os => cell_regrown q1 d os, fun d os => cell_regrown q2 d os, fun d os => cell_regrown q3 d os, fun d os => cell_regrown q4 d os, fun d os => cell_regrown q5 d os⟩
  have HI0 := Lib.hid hi0
  have DI := HF.out
  clear hbx hi0
  refine wp_region_free 106 [0, 1, 2, 3, 4, 5, 6, 7, 8, 9, 10, 11, 12, 13, 14, 15] [⟨16, 7, #[.int .i64 0, .int .i64 0, .int .i64 0, .int .i64 0, .int .i64 0, .int .i64 0], 56, 17, 26, #[.int .i64 bx.lo.x, .int .i64 bx.lo.y, .int .i64 bx.lo.z, .int .i64 bx.hi.x, .int .i64 bx.hi.y, .int .i64 bx.hi.z]⟩] (by kernel_rfl) rfl (by kernel_rfl) (by
    intro x hx
    simp only [List.mem_cons, List.not_mem_nil, or_false] at hx
    subst hx
    exact ⟨⟨_, rfl, ⟨⟨_, rfl, alloc_box⟩, rfl, rfl⟩⟩, _, rfl, ⟨⟨_, rfl, box_size⟩, rfl, rfl, rfl, row_one6 _ _ _ _ _ _⟩⟩) ?_
  refine Walk.step (A := ?A1) (o := ?o1) ?e1 ?w1 11 ?d1 (by simp) ?h1 ?n1
  case e1 => simp only [List.getElem?_toArray, List.getElem?_cons_succ, List.getElem?_cons_zero]; exact rfl
  case w1 => exact rfl
  case d1 => exact rfl
  case h1 =>
    intro W9 hW9
    go_big_quiet_op
    exact rfl
  refine Walk.step (A := ?A2) (o := ?o2) ?e2 ?w2 12 ?d2 (by simp) ?h2 ?n2
  case e2 => simp only [List.getElem?_toArray, List.getElem?_cons_succ, List.getElem?_cons_zero]; exact rfl
  case w2 => exact rfl
  case d2 => exact rfl
  case h2 =>
    intro W9 hW9
    go_big_quiet_op
    exact rfl
  refine Walk.step (A := ?A3) (o := ?o3) ?e3 ?w3 13 ?d3 (by simp) ?h3 ?n3
  case e3 => simp only [List.getElem?_toArray, List.getElem?_cons_succ, List.getElem?_cons_zero]; exact rfl
  case w3 => exact rfl
  case d3 => exact rfl
  case h3 =>
    intro W9 hW9
    go_big_quiet_op
    exact rfl
  refine Walk.step (A := ?A4) (o := ?o4) ?e4 ?w4 14 ?d4 (by simp) ?h4 ?n4
  case e4 => simp only [List.getElem?_toArray, List.getElem?_cons_succ, List.getElem?_cons_zero]; exact rfl
  case w4 => exact rfl
  case d4 => exact rfl
  case h4 =>
    intro W9 hW9
    have z0 := cell_all (KM.out W9 hW9) 1 _ rfl
    go_big_quiet_op
    exact rfl
  refine Walk.step (A := ?A5) (o := ?o5) ?e5 ?w5 15 ?d5 (by simp) ?h5 ?n5
  case e5 => simp only [List.getElem?_toArray, List.getElem?_cons_succ, List.getElem?_cons_zero]; exact rfl
  case w5 => exact rfl
  case d5 => exact rfl
  case h5 =>
    intro W9 hW9
    go_big_quiet_op
    exact rfl
  refine Walk.step (A := ?A6) (o := ?o6) ?e6 ?w6 16 ?d6 (by simp) ?h6 ?n6
  case e6 => simp only [List.getElem?_toArray, List.getElem?_cons_succ, List.getElem?_cons_zero]; exact rfl
  case w6 => exact rfl
  case d6 => exact rfl
  case h6 =>
    intro W9 hW9
    go_big_quiet_op
    exact rfl
  refine Walk.step (A := ?A7) (o := ?o7) ?e7 ?w7 17 ?d7 (by simp) ?h7 ?n7
  case e7 => simp only [List.getElem?_toArray, List.getElem?_cons_succ, List.getElem?_cons_zero]; exact rfl
  case w7 => exact rfl
  case d7 => exact rfl
  case h7 =>
    intro W9 hW9
    go_big_quiet_op
    exact rfl
  refine Walk.step (A := ?A8) (o := ?o8) ?e8 ?w8 18 ?d8 (by simp) ?h8 ?n8
  case e8 => simp only [List.getElem?_toArray, List.getElem?_cons_succ, List.getElem?_cons_zero]; exact rfl
  case w8 => exact rfl
  case d8 => exact rfl
  case h8 =>
    intro W9 hW9
    have z0 := cell_all (KM.out W9 hW9) 0 _ rfl
    go_big_quiet_op
    exact rfl
  refine Walk.step (A := ?A9) (o := ?o9) ?e9 ?w9 19 ?d9 (by simp) ?h9 ?n9
  case e9 => simp only [List.getElem?_toArray, List.getElem?_cons_succ, List.getElem?_cons_zero]; exact rfl
  case w9 => exact rfl
  case d9 => exact rfl
  case h9 =>
    intro W9 hW9
    go_big_quiet_op
    exact rfl
  refine Walk.step (A := ?A10) (o := ?o10) ?e10 ?w10 20 ?d10 (by simp) ?h10 ?n10
  case e10 => simp only [List.getElem?_toArray, List.getElem?_cons_succ, List.getElem?_cons_zero]; exact rfl
  case w10 => exact rfl
  case d10 => exact rfl
  case h10 =>
    intro W9 hW9
    go_big_quiet_op
    exact rfl
  refine Walk.step (A := ?A11) (o := ?o11) ?e11 ?w11 21 ?d11 (by simp) ?h11 ?n11
  case e11 => simp only [List.getElem?_toArray, List.getElem?_cons_succ, List.getElem?_cons_zero]; exact rfl
  case w11 => exact rfl
  case d11 => exact rfl
  case h11 =>
    intro W9 hW9
    have z0 := cell_all (KT.out W9 hW9) 5 _ rfl
    go_big_quiet_op
    exact rfl
  refine Walk.step (A := ?A12) (o := ?o12) ?e12 ?w12 22 ?d12 (by simp) ?h12 ?n12
  case e12 => simp only [List.getElem?_toArray, List.getElem?_cons_succ, List.getElem?_cons_zero]; exact rfl
  case w12 => exact rfl
  case d12 => exact rfl
  case h12 =>
    intro W9 hW9
    go_big_quiet_op
    exact rfl
  refine Walk.step (A := ?A13) (o := ?o13) ?e13 ?w13 23 ?d13 (by simp) ?h13 ?n13
  case e13 => simp only [List.getElem?_toArray, List.getElem?_cons_succ, List.getElem?_cons_zero]; exact rfl
  case w13 => exact rfl
  case d13 => exact rfl
  case h13 =>
    intro W9 hW9
    have z0 := hf
    go_big_quiet_op
    exact rfl
  refine Walk.step (A := ?A14) (o := ?o14) ?e14 ?w14 24 ?d14 (by simp) ?h14 ?n14
  case e14 => simp only [List.getElem?_toArray, List.getElem?_cons_succ, List.getElem?_cons_zero]; exact rfl
  case w14 => exact rfl
  case d14 => exact rfl
  case h14 =>
    intro W9 hW9
    have z0 := KO.out W9 hW9
    go_big_quiet_op
    exact rfl
  refine Walk.step (A := ?A15) (o := ?o15) ?e15 ?w15 25 ?d15 (by simp) ?h15 ?n15
  case e15 => simp only [List.getElem?_toArray, List.getElem?_cons_succ, List.getElem?_cons_zero]; exact rfl
  case w15 => exact rfl
  case d15 => exact rfl
  case h15 =>
    intro W9 hW9
    have z0 := DI
    go_big_quiet_op
    exact rfl
  refine Walk.step (A := ?A16) (o := ?o16) ?e16 ?w16 26 ?d16 (by simp) ?h16 ?n16
  case e16 => simp only [List.getElem?_toArray, List.getElem?_cons_succ, List.getElem?_cons_zero]; exact rfl
  case w16 => exact rfl
  case d16 => exact rfl
  case h16 =>
    intro W9 hW9
    obtain ⟨z0, z1, z2, z3, z4, z5⟩ := KB.out W9 hW9
    go_big_quiet_op
    exact rfl
  refine ⟨?_, ?_⟩
  · intro x hx
    simp only [List.mem_cons, List.not_mem_nil, or_false] at hx
    subst hx
    rfl
  intro G hG hne y1 hb hk
  have k7 := hk _ (List.mem_cons_self ..)
  dsimp only at k7
  have kg : W.heap.size ≤ G 16 := by first | exact hG _ (List.mem_cons_self ..) | exact hG ⟨16, 7, #[.int .i64 0, .int .i64 0, .int .i64 0, .int .i64 0, .int .i64 0, .int .i64 0], 56, 17, 26, #[.int .i64 bx.lo.x, .int .i64 bx.lo.y, .int .i64 bx.lo.z, .int .i64 bx.hi.x, .int .i64 bx.hi.y, .int .i64 bx.hi.z]⟩ (List.mem_cons_self ..)
  have HGE := Lib.hid (show w.heap.size < G 16 from Nat.lt_of_lt_of_le (Base.lt_of_heap HZ0.out) kg)
  simp only [lay, Act.put, List.setIfInBounds_toArray, List.set_cons_succ, List.set_cons_zero, ptr]
  generalize G 16 = gO at k7 HGE ⊢
  clear hG hne hk kg KM KT KO KB
  have HZ1 := Lib.hid (vec_step HZ0.out hb)
  have HM1 := Lib.hid (vec_step HM0.out hb)
  have HT1 := Lib.hid (vec_step HT0.out hb)
  have HB1 := Lib.hid (HB0.out.trans (hb.mono HB0.out.size))
  clear HZ0 HM0 HT0 HB0 hb  
  have HO1 := Lib.hid (k7)
  clear k7
  have wf : IntKind.i64.wrap ((f : Int) + 1) = ((f + 1 : Nat) : Int) := by rw [MeshC.wrap_in (by omega) (by omega)]; omega
  go_upto_region 2 with (fail)
  by_cases hc : cap = f + 1
  · have ht1 : t = f + 1 := by omega
    subst hc ht1
    have hz : f + 1 - (f + 1) = 0 := by omega
    rw [hz, HE.out]
    have cHM0 := cell_row HM1.out 0 _ rfl
    have cHT5 := cell_row HT1.out 5 _ rfl
    go_wp2_with fail
    clear cHM0 cHT5
    go_loopg [39] 0 (fun r n wr => n = .int .i64 0 ∧ wr = y1)
    case atStart => exact ⟨rfl, rfl⟩
    case round =>
      obtain ⟨rfl, rfl⟩ := hrel
      have cHO0 := cell_row HO1.out 0 _ rfl
      have cHO1 := cell_row HO1.out 1 _ rfl
      have cHO2 := cell_row HO1.out 2 _ rfl
      have cHO3 := cell_row HO1.out 3 _ rfl
      have cHO4 := cell_row HO1.out 4 _ rfl
      have cHO5 := cell_row HO1.out 5 _ rfl
      go_wp2_with (with_reducible refine store_box rfl (.tmp 6) (.tmp 105) rfl rfl w.heap.size bx.lo.x bx.lo.y bx.lo.z bx.hi.x bx.hi.y bx.hi.z rfl rfl _ HZ1.out rfl ?_)
      refine bodyPost_ret (results_cell_row rfl _ _ w.heap.size 56 _ _ _ rfl (setRow_heap _ _ _ _ _ _ HZ1.out) Try.underlying56 rfl box_size) rfl ?_
      exact ⟨by rw [show f + 1 - (f + 1) = 0 by omega, HE.out]; rfl, below_setRow HB1.out (Nat.le_refl _) _⟩
  · have hne : ¬ cap = f + 1 := hc
    have cHM0 := cell_row HM1.out 0 _ rfl
    have cHT5 := cell_row HT1.out 5 _ rfl
    go_wp2_with fail
    clear cHM0 cHT5
    have HS0 := Lib.hid (show Ab w y1 y1 gO (bt 0) from ⟨by rw [HE.out]; exact HO1.out, HB1.out, Keeps.refl _ _⟩)
    go_loopg [39] (t - (f + 1)) (fun r n wr => ∃ k : Nat, k + r = t - (f + 1) ∧ n = .int .i64 (k : Int) ∧ Hid (Ab w y1 wr gO (bt k)))
    case atStart => exact ⟨0, by omega, rfl, HS0⟩
    case round =>
      obtain ⟨k, hkr, rfl, hin⟩ := hrel
      have HZ9 := Lib.hid (keep_cell hin.out.k HZ1.out (fun e => by have := HGE.out; have := HNE.out; omega))
      have HM9 := Lib.hid (keep_cell hin.out.k HM1.out (fun e => by have := HGE.out; have := HNE.out; omega))
      by_cases hk : k < t - (f + 1)
      · have d1 : decide ((k : Int) < ((t - (f + 1) : Nat) : Int)) = true := decide_eq_true (by omega)
        have d2 : decide (k < t - (f + 1)) = true := decide_eq_true hk
        have hk2 : f + 1 + k < l.length := by omega
        have HMS := Lib.hid (show t - (f + 1) - (k + 1) < gk by omega)
        have HKR := Lib.hid (show k + 1 + (t - (f + 1) - (k + 1)) = t - (f + 1) by omega)
        have HBX := Lib.hid (HX.out k hk2)
        obtain ⟨i1, hi1⟩ : ∃ i, i = l[f + 1 + k] := ⟨_, rfl⟩
        have hib : i1 < bs.length := by rw [hi1]; exact HLK.out _ (List.getElem_mem hk2)
        rw [← hi1] at HBX
        obtain ⟨g, cp, e, -, -, -, hc, -, -⟩ := ((HRO.out.below hin.out.hb (Nat.le_refl _))).at_ (by omega)
        simp only [Value.slice.injEq, Option.some.injEq, Addr.mk.injEq, and_true, true_and] at e
        obtain ⟨rfl, -⟩ := e
        have z0 := hc (f + 1 + k) hk2
        rw [← hi1] at z0
        obtain ⟨bb2, ob2, eb2, -, u0, u1, u2, u3, u4, u5⟩ := at6 (HRB.out.below hin.out.hb (Nat.le_refl _)) i1 hib
        simp only [Option.some.injEq, Addr.mk.injEq, and_true] at eb2
        obtain ⟨rfl, rfl⟩ := eb2
        have c1 := cell_row HM9.out 1 _ rfl
        obtain ⟨bs1, hbs1⟩ : ∃ z, z = bs[i1] := ⟨_, rfl⟩
        rw [← hbs1] at u0 u1 u2 u3 u4 u5
        have hbg : bs.getD i1 zeroB = bs1 := by rw [hbs1]; simp [hib]
        rw [hbg] at HBX
        clear hbg
        have HI1 := Lib.hid (And.intro hi1 hbs1)
        have HIN := hin
        clear hi1 hbs1 hin hc
        go_upto_region 6 with (fail)
        have hx := ext_alloc wr (.cells #[.int .i64 bs1.lo.x, .int .i64 bs1.lo.y, .int .i64 bs1.lo.z, .int .i64 bs1.hi.x, .int .i64 bs1.hi.y, .int .i64 bs1.hi.z] 56)
        have hn := heap_alloc_new wr (.cells #[.int .i64 bs1.lo.x, .int .i64 bs1.lo.y, .int .i64 bs1.lo.z, .int .i64 bs1.hi.x, .int .i64 bs1.hi.y, .int .i64 bs1.hi.z] 56)
        obtain ⟨y, hW⟩ : ∃ ww, ww = wr.alloc (.cells #[.int .i64 bs1.lo.x, .int .i64 bs1.lo.y, .int .i64 bs1.lo.z, .int .i64 bs1.hi.x, .int .i64 bs1.hi.y, .int .i64 bs1.hi.z] 56) := ⟨_, rfl⟩
        rw [← hW] at hx hn ⊢
        clear hW
        have HR0 := Lib.hid (vec_step HIN.out.row hx)
        have HN0 := Lib.hid hn
        have HBY0 := Lib.hid (show Below w.heap.size w y from HIN.out.hb.trans (hx.mono HIN.out.hb.size))
        have HKY0 := Lib.hid (HIN.out.k.trans (Keeps.of_ext hx (fun _ => False)) (fun _ h => h.elim))
        have hne0 : gO ≠ wr.heap.size := Nat.ne_of_lt (Base.lt_of_heap HIN.out.row)
        clear hx hn
        generalize wr.heap.size = gN at HN0 hne0 ⊢
        clear HIN
        generalize bt k = q at HR0 HBX ⊢
        have ne2 : gN ≠ gO := Ne.symm hne0
        have hgo : w.heap.size ≤ gO := Nat.le_of_lt HGE.out
        go_upto_region 6 with (fail)
        go_cut [] from 50 to 67 (fun wc => Hid (wc.heap[gO]? = some (.cells #[.int .i64 (minI q.lo.x bs1.lo.x), .int .i64 q.lo.y, .int .i64 q.lo.z, .int .i64 (maxI q.hi.x bs1.hi.x), .int .i64 q.hi.y, .int .i64 q.hi.z] 56) ∧ wc.heap[gN]? = some (.cells #[.int .i64 bs1.lo.x, .int .i64 bs1.lo.y, .int .i64 bs1.lo.z, .int .i64 bs1.hi.x, .int .i64 bs1.hi.y, .int .i64 bs1.hi.z] 56) ∧ Below w.heap.size w wc ∧ Keeps (fun j => j = gO) y1 wc))
        case first =>
          have MN := min2_at (x := q.lo.x) (y := bs1.lo.x) rfl
          have MX := max2_at (x := q.hi.x) (y := bs1.hi.x) rfl
          have c2 := cell_row HR0.out 0 _ rfl
          have c3 := cell_row HR0.out 3 _ rfl
          have c4 := cell_row HN0.out 0 _ rfl
          have c5 := cell_row HN0.out 3 _ rfl
          have t2 := frozen_of_row _ _ 0 _ _ HR0.out
          have t3 := frozen_of_row _ _ 3 _ _ HR0.out
          go_region
          obtain ⟨z1, hz1⟩ : ∃ ww, ww = ((y.setCell ⟨gO, 0, none⟩ (.int .i64 (minI q.lo.x bs1.lo.x))).setCell ⟨gO, 3, none⟩ (.int .i64 (maxI q.hi.x bs1.hi.x))).drew := ⟨_, rfl⟩
          have HZS := Lib.hid (two_sets HR0.out HN0.out hne0 HBY0.out hgo HKY0.out (cs2 := #[.int .i64 (minI q.lo.x bs1.lo.x), .int .i64 q.lo.y, .int .i64 q.lo.z, .int .i64 (maxI q.hi.x bs1.hi.x), .int .i64 q.hi.y, .int .i64 q.hi.z]) rfl hz1)
          rw [← hz1]
          clear hz1 MN MX c2 c3 c4 c5 t2 t3
          go_wp2_with fail
          go_meet
          case rel => exact HZS
        case rest =>
          have HR1 := Lib.hid hcut.out.1
          have HN1 := Lib.hid hcut.out.2.1
          have HBY1 := Lib.hid hcut.out.2.2.1
          have HKY1 := Lib.hid hcut.out.2.2.2
          clear hcut HR0 HN0 HBY0 HKY0
          obtain ⟨z1, hz⟩ : ∃ ww, ww = wc := ⟨_, rfl⟩
          subst hz
          go_upto_region 7 with (fail)
          go_cut [] from 68 to 85 (fun wc => Hid (wc.heap[gO]? = some (.cells #[.int .i64 (minI q.lo.x bs1.lo.x), .int .i64 (minI q.lo.y bs1.lo.y), .int .i64 q.lo.z, .int .i64 (maxI q.hi.x bs1.hi.x), .int .i64 (maxI q.hi.y bs1.hi.y), .int .i64 q.hi.z] 56) ∧ wc.heap[gN]? = some (.cells #[.int .i64 bs1.lo.x, .int .i64 bs1.lo.y, .int .i64 bs1.lo.z, .int .i64 bs1.hi.x, .int .i64 bs1.hi.y, .int .i64 bs1.hi.z] 56) ∧ Below w.heap.size w wc ∧ Keeps (fun j => j = gO) y1 wc))
          case first =>
            have MN := min2_at (x := q.lo.y) (y := bs1.lo.y) rfl
            have MX := max2_at (x := q.hi.y) (y := bs1.hi.y) rfl
            have c2 := cell_row HR1.out 1 _ rfl
            have c3 := cell_row HR1.out 4 _ rfl
            have c4 := cell_row HN1.out 1 _ rfl
            have c5 := cell_row HN1.out 4 _ rfl
            have t2 := frozen_of_row _ _ 1 _ _ HR1.out
            have t3 := frozen_of_row _ _ 4 _ _ HR1.out
            go_region
            obtain ⟨z2, hz2⟩ : ∃ ww, ww = ((z1.setCell ⟨gO, 1, none⟩ (.int .i64 (minI q.lo.y bs1.lo.y))).setCell ⟨gO, 4, none⟩ (.int .i64 (maxI q.hi.y bs1.hi.y))).drew := ⟨_, rfl⟩
            have HZS := Lib.hid (two_sets HR1.out HN1.out hne0 HBY1.out hgo HKY1.out (cs2 := #[.int .i64 (minI q.lo.x bs1.lo.x), .int .i64 (minI q.lo.y bs1.lo.y), .int .i64 q.lo.z, .int .i64 (maxI q.hi.x bs1.hi.x), .int .i64 (maxI q.hi.y bs1.hi.y), .int .i64 q.hi.z]) rfl hz2)
            rw [← hz2]
            clear hz2 MN MX c2 c3 c4 c5 t2 t3
            go_wp2_with fail
            go_meet
            case rel => exact HZS
          case rest =>
            have HR2 := Lib.hid hcut.out.1
            have HN2 := Lib.hid hcut.out.2.1
            have HBY2 := Lib.hid hcut.out.2.2.1
            have HKY2 := Lib.hid hcut.out.2.2.2
            clear hcut HR1 HN1 HBY1 HKY1
            obtain ⟨z2, hz⟩ : ∃ ww, ww = wc := ⟨_, rfl⟩
            subst hz
            go_upto_region 8 with (fail)
            have MN := min2_at (x := q.lo.z) (y := bs1.lo.z) rfl
            have MX := max2_at (x := q.hi.z) (y := bs1.hi.z) rfl
            have c2 := cell_row HR2.out 2 _ rfl
            have c3 := cell_row HR2.out 5 _ rfl
            have c4 := cell_row HN2.out 2 _ rfl
            have c5 := cell_row HN2.out 5 _ rfl
            have t2 := frozen_of_row _ _ 2 _ _ HR2.out
            have t3 := frozen_of_row _ _ 5 _ _ HR2.out
            go_region
            obtain ⟨z3, hz3⟩ : ∃ ww, ww = ((z2.setCell ⟨gO, 2, none⟩ (.int .i64 (minI q.lo.z bs1.lo.z))).setCell ⟨gO, 5, none⟩ (.int .i64 (maxI q.hi.z bs1.hi.z))).drew := ⟨_, rfl⟩
            have HZS := Lib.hid (two_sets HR2.out HN2.out hne0 HBY2.out hgo HKY2.out (cs2 := #[.int .i64 (minI q.lo.x bs1.lo.x), .int .i64 (minI q.lo.y bs1.lo.y), .int .i64 (minI q.lo.z bs1.lo.z), .int .i64 (maxI q.hi.x bs1.hi.x), .int .i64 (maxI q.hi.y bs1.hi.y), .int .i64 (maxI q.hi.z bs1.hi.z)]) rfl hz3)
            rw [← hz3]
            clear hz3 MN MX c2 c3 c4 c5 t2 t3
            have hcut := HZS
            clear HZS
            have HR3 := Lib.hid hcut.out.1
            have HN3 := Lib.hid hcut.out.2.1
            have HBY3 := Lib.hid hcut.out.2.2.1
            have HKY3 := Lib.hid hcut.out.2.2.2
            clear hcut HR2 HN2 HBY2 HKY2
            have HS9 := Lib.hid (show Ab w y1 z3 gO (bt (k + 1)) from ⟨by rw [HBX.out]; exact HR3.out, HBY3.out, HKY3.out⟩)
            clear HR3 HN3 HBY3 HKY3
            clear d1 d2 u0 u1 u2 u3 u4 u5 z0 c1
            go_wp2_with fail
            go_roundg (t - (f + 1) - (k + 1))
            case measure => exact HMS.out
            case rel => exact ⟨k + 1, HKR.out, rfl, HS9⟩
      · have hkk : k = t - (f + 1) := by omega
        subst hkk
        have d1 : decide (((t - (f + 1) : Nat) : Int) < ((t - (f + 1) : Nat) : Int)) = false := decide_eq_false (by omega)
        have d2 : decide (t - (f + 1) < t - (f + 1)) = false := decide_eq_false (by omega)
        have HB9 := Lib.hid hin.out.hb
        have HQ := Lib.hid hin.out.row
        clear hin HS0 HX
        obtain ⟨q, hq⟩ : ∃ z, z = bt (t - (f + 1)) := ⟨_, rfl⟩
        rw [← hq] at HQ
        have HQE := Lib.hid hq
        clear hq
        have c0 := cell_row HQ.out 0 _ rfl
        have c1 := cell_row HQ.out 1 _ rfl
        have c2 := cell_row HQ.out 2 _ rfl
        have c3 := cell_row HQ.out 3 _ rfl
        have c4 := cell_row HQ.out 4 _ rfl
        have c5 := cell_row HQ.out 5 _ rfl
        go_wp2_with (with_reducible refine store_box rfl (.tmp 6) (.tmp 105) rfl rfl w.heap.size q.lo.x q.lo.y q.lo.z q.hi.x q.hi.y q.hi.z rfl rfl _ HZ9.out rfl ?_)
        refine bodyPost_ret (results_cell_row rfl _ _ w.heap.size 56 _ _ _ rfl (setRow_heap _ _ _ _ _ _ HZ9.out) Try.underlying56 rfl box_size) rfl ?_
        exact ⟨by rw [← HQE.out]; rfl, below_setRow HB9.out (Nat.le_refl _) _⟩

end Go.Proofs.Ytdaokkgenfpmhaa.BvhV
