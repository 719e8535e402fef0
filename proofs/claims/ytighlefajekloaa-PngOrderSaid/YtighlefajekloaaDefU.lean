/- Package deflate: match. -/
import Derived.Test.YtighlefajekloaaDefT
import Derived.Test.YtighlefajekloaaQu
import Derived.Test.YtighlefajekloaaDefR
import Derived.Deep.AppendLies
set_option linter.unusedVariables false
set_option linter.unusedSimpArgs false
namespace Go.Proofs.Ytighlefajekloaa.DefU
open Go.RowKit Go.Sort BitsM Base Low BitsW BitsX BitsS MapA DefM DefN DefS DefT DefR Qb Qt Qp
/-- places noted since the world w -/
structure Nw (base : Nat) (w : World) (s : Dg) (V R T : Nat) (B : List Nat) (S Z : Nat) (wr : World) (P' : Value → Value) (N' : Nat) : Prop where
  dw : Dw base wr { s with P := P' } false V R T B S N' Z
  keeps : Keeps s.own w wr
  fresh : ∀ k, ({ s with P := P' } : Dg).own k → s.own k ∨ w.heap.size ≤ k
theorem Nw.ext {base : Nat} {w : World} {s : Dg} {V R T : Nat} {B : List Nat} {S Z : Nat} {wr w' : World} {P' : Value → Value} {N' : Nat} (h : Nw base w s V R T B S Z wr P' N') (hb : Below wr.heap.size wr w') : Nw base w s V R T B S Z w' P' N' :=
  ⟨h.dw.ext hb, h.keeps.trans (Keeps.of_ext hb (fun _ => False)) (fun k h => h.elim), h.fresh⟩
theorem getD_lt {B : List Nat} (h : ∀ x ∈ B, x < 256) (i : Nat) : B.getD i 0 < 256 := by
  rw [List.getD_eq_getElem?_getD]
  rcases Nat.lt_or_ge i B.length with hi | hi
  · rw [List.getElem?_eq_getElem hi]; exact h _ (List.getElem_mem hi)
  · rw [List.getElem?_eq_none hi]; simp
theorem setBlock_at {w : World} {g : Nat} {o : Obj} (h : g < w.heap.size) : (Go.ChangeMaps.setBlock w g o).heap[g]? = some o := by
  show (w.heap.setIfInBounds g o)[g]? = some o
  rw [Array.getElem?_setIfInBounds_self_of_lt h]
theorem plc_len (B : List Nat) (n a b c : Nat) : (plc B n a b c).length ≤ n := by
  have := List.length_filter_le (fun p => B.getD p 0 == a && (B.getD (p + 1) 0 == b && B.getD (p + 2) 0 == c)) (List.range n)
  rw [List.length_range] at this; exact this
theorem wpQuiet_lookup {P : Program} {ops : Array Oper} {W : World} {Q : Act → Prop} {rest : List Oper} {o : Oper} {a : Act} (hgd : Region.wanted o (yielded ops a.tmps) = true) (t : TypeId) (x y : Operand)
    (ho : o.op = .lookup t x y false) (mv kv v : Value) (hx : a.eval x = mv) (hy : a.eval y = kv) (hl : ∀ d os, (Instr.lookup t mv kv false).run P (grow (redrawn W d) os) = .ok v (grow (redrawn W d) os))
    (h : wpQuiet P ops (fun w' => ∃ p : Regrown, w' = grow (redrawn W p.d) p.os) Q rest (a.put o.dst v)) : wpQuiet P ops (fun w' => ∃ p : Regrown, w' = grow (redrawn W p.d) p.os) Q (o :: rest) a := by
  refine BigFrame.wpQuiet_want hgd fun K hK => ⟨v, fun w hw => ?_, hK _ h⟩
  obtain ⟨p, rfl⟩ := hw
  unfold Oper.quietAt execOp
  simp only [ho, hx, hy, Sem.run_bind, Sem.run_pure, Result.andThen_ok, hl, Oper.quietUpon]
  first | exact ⟨⟨p, rfl⟩, rfl⟩ | exact ⟨rfl, ⟨p, rfl⟩⟩ | exact ⟨rfl, rfl⟩ | exact ⟨trivial, trivial⟩ | trivial
/-- what the noting's operations read -/
structure DR (s : Dg) (gX x y z N S Z : Nat) (P' : Value → Value) (W w : World) : Prop where
  row : w.heap[s.gW]? = some (.cells #[.bool true, .bool false, .pointer (some ⟨s.gO, 0, none⟩), s.vK, .int .i64 0, .int .i64 (S : Int), .int .i64 (N : Int), .map (some s.gM), .int .i64 (Z : Int)] 93)
  key : w.heap[gX]? = some (.cells #[.int .u8 (x : Int), .int .u8 (y : Int), .int .u8 (z : Int)] 120)
  below : Below W.heap.size W w
theorem DR.step {s : Dg} {gX x y z N S Z : Nat} {P' : Value → Value} {W w w' : World} (h : DR s gX x y z N S Z P' W w) (hb : Below w.heap.size w w') : DR s gX x y z N S Z P' W w' :=
  ⟨(hb.block _ (lt_of_heap h.row)).trans h.row, (hb.block _ (lt_of_heap h.key)).trans h.key, h.below.trans (hb.mono h.below.size)⟩
set_option maxRecDepth 100000 in
set_option maxHeartbeats 2000000 in
theorem match_any (base : Nat) (w : World) (s : Dg) (V R T : Nat) (B : List Nat) (S N Z : Nat) (h : Dw base w s false V R T B S N Z) (i b : Nat) (hib : i ≤ b) (hb : b ≤ B.length) (hB : B.length ≤ 100000) (hNi : N ≤ i) (hN : N = 0 ∨ N + 2 ≤ B.length) :
    Calls Try.prog 59 #[.pointer (some ⟨s.gW, 0, none⟩), .int .i64 (i : Int), .int .i64 (b : Int)] w fun e w' => ∃ n d P' N', e = .returned (.tuple #[.int .i64 ((n : Nat) : Int), .int .i64 ((d : Nat) : Int)]) ∧ Nw base w s V R T B S Z w' P' N' ∧ N' ≤ i ∧ (N' = 0 ∨ N' + 2 ≤ B.length) ∧
      ((3 ≤ (matchF B i b).1 ∧ (n, d) = matchF B i b) ∨ (¬ 3 ≤ (matchF B i b).1 ∧ n < 3)) := by
  by_cases h3 : b - i < 3
  · have e1 : IntKind.i64.wrap ((b : Int) - (i : Int)) = ((b - i : Nat) : Int) := by rw [IntKind.wrap_i64]; omega
    go_enter Try.func59, Try.ntmps59
    go_wp2_with fail
    go_ret2
    refine ⟨0, 0, s.P, N, rfl, ⟨h, Keeps.refl _ _, fun k hk => .inl hk⟩, hNi, hN, .inr ⟨?_, by omega⟩⟩
    have := match_le B i b
    omega
  · obtain ⟨m, hm⟩ : ∃ m, m = min 258 (b - i) := ⟨_, rfl⟩
    have e1 : IntKind.i64.wrap ((b : Int) - (i : Int)) = ((b - i : Nat) : Int) := by rw [IntKind.wrap_i64]; omega
    have d3 : decide ((m : Int) < 3) = false := decide_eq_false (by omega)
    have MN : ∀ (ts : Array TypeId) (t : TypeId) (w : World), (Builtin.min_ ts t #[.int .i64 258, .int .i64 ((b - i : Nat) : Int)]).run Try.prog w = .ok (.int .i64 (m : Int)) w := by
      intro ts t w
      have e : (m : Int) = if ((b - i : Nat) : Int) < 258 then ((b - i : Nat) : Int) else 258 := by split <;> omega
      rw [e]; simp [Builtin.min_, Builtin.min2]
    have H0 := Lib.hid h
    have HM := Lib.hid hm
    clear hm h
    go_enter Try.func59, Try.ntmps59
    go_upto_region 4 with (fail)
    go_loopw [9] (fun _ wr => ∃ P' N', Nw base w s V R T B S Z wr P' N' ∧ N ≤ N' ∧ N' ≤ i ∧ (N' = 0 ∨ N' + 2 ≤ B.length)) (fun _ wr => i - (intOf ((wr.cell? ⟨s.gW, 6, none⟩).getD undef)).toNat)
    case atStart => exact ⟨s.P, N, ⟨H0.out, Keeps.refl _ _, fun k hk => .inl hk⟩, Nat.le_refl _, hNi, hN⟩
    case round =>
      obtain ⟨P', N', hn, h1, h2, h4⟩ := hrel
      obtain ⟨C0, C1, C2, C3, C4, C5, C6, C7, C8⟩ := hn.dw.row.cells
      by_cases hlt : N' < i
      · have d1 : decide ((N' : Int) < (i : Int)) = true := decide_eq_true (by omega)
        have hN2 : N' + 3 ≤ B.length := by have := HM.out; omega
        obtain ⟨x, hx⟩ : ∃ x, B.getD N' 0 = x := ⟨_, rfl⟩
        obtain ⟨y, hy⟩ : ∃ x, B.getD (N' + 1) 0 = x := ⟨_, rfl⟩
        obtain ⟨z, hz⟩ : ∃ x, B.getD (N' + 2) 0 = x := ⟨_, rfl⟩
        have HN := Lib.hid hn
        have HX := Lib.hid hx
        have HY := Lib.hid hy
        have HZ := Lib.hid hz
        clear hn hx hy hz
        go_upto_region 7 with (go_at_call 70; refine (three_any wr { s with P := P' } false S N' Z B HN.out.dw.row HN.out.dw.k.kept.nums N' hN2 (by omega) x y z HX.out HY.out HZ.out).mono ?_; rintro e w1 ⟨rfl, hb1⟩)
        have hbW := hb1.trans ((ext_alloc w1 (.cells #[.int .u8 (x : Int), .int .u8 (y : Int), .int .u8 (z : Int)] 120)).mono hb1.size)
        have hkey := heap_alloc_new w1 (.cells #[.int .u8 (x : Int), .int .u8 (y : Int), .int .u8 (z : Int)] 120)
        obtain ⟨W, hW⟩ : ∃ ww, ww = w1.alloc (.cells #[.int .u8 (x : Int), .int .u8 (y : Int), .int .u8 (z : Int)] 120) := ⟨_, rfl⟩
        rw [← hW] at hbW hkey ⊢
        have hgX := hb1.size
        clear hW
        generalize w1.heap.size = gX at *
        have hDW := HN.out.dw.ext hbW
        have hrow := hDW.row.blk
        have HR := Lib.hid (show DR s gX x y z N' S Z P' W W from ⟨hrow, hkey, Below.refl _ _⟩)
        have HDW := Lib.hid hDW
        have HBW := Lib.hid hbW
        have HG := Lib.hid (show s.gM < W.heap.size ∧ ¬ s.gW = s.gM ∧ ¬ gX = s.gM from ⟨hDW.k.map_.lt, fun e => (by have := hDW.k.apart .w .m s.gW rfl (congrArg some e.symm); cases this), fun e => (by have : s.gM < wr.heap.size := HN.out.dw.k.map_.lt; omega)⟩)
        obtain ⟨vp, hvp⟩ : ∃ vp, P' (k3 x y z) = vp := ⟨_, rfl⟩
        have HVP := Lib.hid hvp
        have HL := Lib.hid (show x < 256 ∧ y < 256 ∧ z < 256 from ⟨by rw [← HX.out]; exact getD_lt HN.out.dw.k.kept.bound N', by rw [← HY.out]; exact getD_lt HN.out.dw.k.kept.bound _, by rw [← HZ.out]; exact getD_lt HN.out.dw.k.kept.bound _⟩)
        clear hvp hDW hrow hkey hbW hb1 C0 C1 C2 C3 C4 C5 C6 C7 C8
        refine wp_region_script [(true, 0), (true, 1), (true, 2), (true, 3), (true, 4), (true, 5), (true, 6), (true, 7), (true, 8), (false, 9), (false, 10), (true, 11), (true, 13), (false, 12), (false, 14)] (DR s gX x y z N' S Z P') W (by kernel_rfl) (by kernel_rfl) (HR.out.step ⟨rfl, rfl, rfl, Nat.le_refl _, fun _ _ => rfl⟩) ?_
        refine Scr.quiet (A := ?A1) (o := ?o1) (fun s9 w9 w8 h9 hb9 => h9.step hb9) W W HR.out ?e1 ?w1 40 ?d1 (by simp) ?h1 ?n1
        case e1 => simp only [List.getElem?_toArray, List.getElem?_cons_succ, List.getElem?_cons_zero]; exact rfl
        case w1 => exact rfl
        case d1 => exact rfl
        case h1 =>
          intro s9 w9 h9
          go_big_quiet_op
          exact rfl
        refine Scr.quiet (A := ?A2) (o := ?o2) (fun s9 w9 w8 h9 hb9 => h9.step hb9) W W HR.out ?e2 ?w2 41 ?d2 (by simp) ?h2 ?n2
        case e2 => simp only [List.getElem?_toArray, List.getElem?_cons_succ, List.getElem?_cons_zero]; exact rfl
        case w2 => exact rfl
        case d2 => exact rfl
        case h2 =>
          intro s9 w9 h9
          go_big_quiet_op
          exact rfl
        refine Scr.quiet (A := ?A3) (o := ?o3) (fun s9 w9 w8 h9 hb9 => h9.step hb9) W W HR.out ?e3 ?w3 42 ?d3 (by simp) ?h3 ?n3
        case e3 => simp only [List.getElem?_toArray, List.getElem?_cons_succ, List.getElem?_cons_zero]; exact rfl
        case w3 => exact rfl
        case d3 => exact rfl
        case h3 =>
          intro s9 w9 h9
          go_big_quiet_op
          exact rfl
        refine Scr.quiet (A := ?A4) (o := ?o4) (fun s9 w9 w8 h9 hb9 => h9.step hb9) W W HR.out ?e4 ?w4 43 ?d4 (by simp) ?h4 ?n4
        case e4 => simp only [List.getElem?_toArray, List.getElem?_cons_succ, List.getElem?_cons_zero]; exact rfl
        case w4 => exact rfl
        case d4 => exact rfl
        case h4 =>
          intro s9 w9 h9
          have q0 := fun d os => cell_regrown (show w9.cell? ⟨s.gW, 7, none⟩ = some (.map (some s.gM)) from cell_of_row _ _ 7 _ _ _ h9.row) d os
          go_big_quiet_op
          exact rfl
        refine Scr.quiet (A := ?A5) (o := ?o5) (fun s9 w9 w8 h9 hb9 => h9.step hb9) W W HR.out ?e5 ?w5 44 ?d5 (by simp) ?h5 ?n5
        case e5 => simp only [List.getElem?_toArray, List.getElem?_cons_succ, List.getElem?_cons_zero]; exact rfl
        case w5 => exact rfl
        case d5 => exact rfl
        case h5 =>
          intro s9 w9 h9
          have q0 := fun d os => cell_regrown (show w9.cell? ⟨gX, 0, none⟩ = some (.int .u8 (x : Int)) from cell_of_row _ _ 0 _ _ _ h9.key) d os
          have q1 := fun d os => cell_regrown (show w9.cell? ⟨gX, 1, none⟩ = some (.int .u8 (y : Int)) from cell_of_row _ _ 1 _ _ _ h9.key) d os
          have q2 := fun d os => cell_regrown (show w9.cell? ⟨gX, 2, none⟩ = some (.int .u8 (z : Int)) from cell_of_row _ _ 2 _ _ _ h9.key) d os
          go_big_quiet_op
          exact rfl
        refine Scr.quiet (A := ?A6) (o := ?o6) (fun s9 w9 w8 h9 hb9 => h9.step hb9) W W HR.out ?e6 ?w6 46 ?d6 (by simp) ?h6 ?n6
        case e6 => simp only [List.getElem?_toArray, List.getElem?_cons_succ, List.getElem?_cons_zero]; exact rfl
        case w6 => exact rfl
        case d6 => exact rfl
        case h6 =>
          intro s9 w9 h9
          go_big_quiet_op
          exact rfl
        refine Scr.quiet (A := ?A7) (o := ?o7) (fun s9 w9 w8 h9 hb9 => h9.step hb9) W W HR.out ?e7 ?w7 47 ?d7 (by simp) ?h7 ?n7
        case e7 => simp only [List.getElem?_toArray, List.getElem?_cons_succ, List.getElem?_cons_zero]; exact rfl
        case w7 => exact rfl
        case d7 => exact rfl
        case h7 =>
          intro s9 w9 h9
          go_big_quiet_op
          exact rfl
        refine Scr.quiet (A := ?A8) (o := ?o8) (fun s9 w9 w8 h9 hb9 => h9.step hb9) W W HR.out ?e8 ?w8 48 ?d8 (by simp) ?h8 ?n8
        case e8 => simp only [List.getElem?_toArray, List.getElem?_cons_succ, List.getElem?_cons_zero]; exact rfl
        case w8 => exact rfl
        case d8 => exact rfl
        case h8 =>
          intro s9 w9 h9
          go_big_quiet_op
          exact rfl
        refine Scr.quiet (A := ?A9) (o := ?o9) (fun s9 w9 w8 h9 hb9 => h9.step hb9) W W HR.out ?e9 ?w9 49 ?d9 (by simp) ?h9 ?n9
        case e9 => simp only [List.getElem?_toArray, List.getElem?_cons_succ, List.getElem?_cons_zero]; exact rfl
        case w9 => exact rfl
        case d9 => exact rfl
        case h9 =>
          intro s9 w9 h9
          have q0 := fun d os => cell_regrown (show w9.cell? ⟨s.gW, 6, none⟩ = some (.int .i64 (N' : Int)) from cell_of_row _ _ 6 _ _ _ h9.row) d os
          go_big_quiet_op
          exact rfl
        refine Scr.write (o := ?o10) (fun v s' => ∃ g, v = .slice (some ⟨g, 0, none⟩) 1 1 ∧ W.heap.size ≤ g ∧ Seq encP s' v [N'] ∧ Below W.heap.size W s') ?e10 ?w10 ?r10 ?n10
        case e10 => simp only [List.getElem?_toArray, List.getElem?_cons_succ, List.getElem?_cons_zero]; exact rfl
        case w10 => exact rfl
        case r10 =>
          intro w9 h9
          left
          have e9 : (Instr.buildSlice 23 1 #[(0, .int .i64 (N' : Int))]).run Try.prog w9 = .ok (.slice (some ⟨w9.heap.size, 0, none⟩) 1 1) (w9.alloc (.cells #[.int .i64 (N' : Int)] 3)) := by kernel_rfl
          have h8 := h9.step (ext_alloc w9 (.cells #[.int .i64 (N' : Int)] 3))
          refine ⟨_, _, _, ?_, ⟨w9.heap.size, rfl, h9.below.size, seq_one 3 w9 N' (.int .i64 (N' : Int)) rfl, h8.below⟩, ⟨h8.row, h8.key, Below.refl _ _⟩⟩
          simp [execOp, Act.eval, e9, Result.andThen]
        rintro v1 s1 ⟨g, rfl, hg1, hsq1, hbs1⟩
        have HSQ := Lib.hid hsq1
        have HS1 := Lib.hid hbs1
        clear hsq1 hbs1
        simp only [Act.put, List.setIfInBounds_toArray, List.set_cons_succ, List.set_cons_zero]
        refine Scr.write (o := ?o11) (fun v s' => ∃ st o1 yy, v = .tuple #[vp, .int .i64 ((st : Nat) : Int)] ∧ Below W.heap.size W yy ∧ Below s1.heap.size s1 yy ∧ s' = Go.ChangeMaps.setBlock yy s.gM o1 ∧ yy.heap[s.gM]? = W.heap[s.gM]? ∧ (∀ (w2 : World) (val : Value), w2.heap[s.gM]? = some o1 → Full val → ∃ o2, (Instr.entryStore 91 (.map (some s.gM)) (.int .i64 ((st : Nat) : Int)) val).run Try.prog w2 = .ok () (Go.ChangeMaps.setBlock w2 s.gM o2) ∧ Pl (Go.ChangeMaps.setBlock w2 s.gM o2) s.gM (updV P' (k3 x y z) val))) ?e11 ?w11 ?r11 ?n11
        case e11 => simp only [List.getElem?_toArray, List.getElem?_cons_succ, List.getElem?_cons_zero]; exact rfl
        case w11 => exact rfl
        case r11 =>
          intro w9 h9
          left
          have hb9 := HS1.out.trans (h9.below.mono HS1.out.size)
          have hd9 := HDW.out.ext hb9
          obtain ⟨st, o1, e1, e2⟩ := Pl.entry hd9.k.map_ (v := k3 x y z) ⟨x, y, z, HL.out.1, HL.out.2.1, HL.out.2.2, rfl⟩
          have e3 : (Instr.mapEntry 91 (.map (some s.gM)) (.agg #[.int .u8 (x : Int), .int .u8 (y : Int), .int .u8 (z : Int)])).run Try.prog w9 = .ok (.tuple #[vp, .int .i64 (st : Int)]) (Go.ChangeMaps.setBlock w9 s.gM o1) := by rw [← HVP.out]; exact e1
          have hk9 := keeps_setBlock w9 s.gM o1
          refine ⟨_, _, _, ?_, ⟨st, o1, w9, rfl, hb9, h9.below, rfl, hb9.block _ HG.out.1, e2⟩, ⟨(hk9.block _ (lt_of_heap h9.row) HG.out.2.1).trans h9.row, (hk9.block _ (lt_of_heap h9.key) HG.out.2.2).trans h9.key, Below.refl _ _⟩⟩
          simp [execOp, Act.eval, e3, Result.andThen]
        rintro v2 s2 ⟨st, o1, yy, rfl, hy1, hy2, hs2, hy3, hst⟩
        have HY1 := Lib.hid hy1
        have HY2 := Lib.hid hy2
        have HY3 := Lib.hid hy3
        have HS2 := Lib.hid hs2
        have HST := Lib.hid hst
        clear hy1 hy2 hs2 hy3 hst
        simp only [Act.put, List.setIfInBounds_toArray, List.set_cons_succ, List.set_cons_zero]
        refine Scr.quiet (A := ?A12) (o := ?o12) (fun s9 w9 w8 h9 hb9 => h9.step hb9) W W HR.out ?e12 ?w12 45 ?d12 (by simp) ?h12 ?n12
        case e12 => simp only [List.getElem?_toArray, List.getElem?_cons_succ, List.getElem?_cons_zero]; exact rfl
        case w12 => exact rfl
        case d12 => exact rfl
        case h12 =>
          intro s9 w9 h9
          go_big_quiet_op
          exact rfl
        refine Scr.quiet (A := ?A13) (o := ?o13) (fun s9 w9 w8 h9 hb9 => h9.step hb9) W W HR.out ?e13 ?w13 53 ?d13 (by simp) ?h13 ?n13
        case e13 => simp only [List.getElem?_toArray, List.getElem?_cons_succ, List.getElem?_cons_zero]; exact rfl
        case w13 => exact rfl
        case d13 => exact rfl
        case h13 =>
          intro s9 w9 h9
          go_big_quiet_op
          exact rfl
        have HVM := Lib.hid (show ∀ k, vp.ownBlock = some k → ¬ k = s.gM ∧ ¬ k = s.gW ∧ k < gX ∧ k < W.heap.size from by
          intro k hk
          rw [← HVP.out] at hk
          refine ⟨?_, ?_, ?_, ?_⟩
          · rintro rfl; have := HDW.out.k.apart .m (.key (k3 x y z)) _ rfl hk; cases this
          · rintro rfl; have := HDW.out.k.apart .w (.key (k3 x y z)) _ rfl hk; cases this
          · have : k < wr.heap.size := (HN.out.dw.low (.key (k3 x y z)) k hk).2; omega
          · exact (HDW.out.low (.key (k3 x y z)) k hk).2)
        have HV0 := Lib.hid (show SeqOwn encP 3 base s2 vp (plc B N' x y z) from by
          have h0 := HDW.out.k.keys x y z HL.out.1 HL.out.2.1 HL.out.2.2
          have h1 : SeqOwn encP 3 base W vp (plc B N' x y z) := by rw [← HVP.out]; exact h0
          rw [HS2.out]
          exact (h1.below HY1.out (Nat.le_refl _)).frame (keeps_setBlock yy s.gM o1) (fun k hk => (HVM.out k hk).1))
        have HU0 := Lib.hid (show Seq encP s2 (.slice (some ⟨g, 0, none⟩) 1 1) [N'] from by
          rw [HS2.out]
          refine (HSQ.out.below HY2.out (Nat.le_refl _)).frame (keeps_setBlock yy s.gM o1) (fun k hk e => ?_)
          simp only [Value.ownBlock, Option.some.injEq] at hk
          have := HG.out.1; omega)
        have HK2 := Lib.hid (show Keeps (fun k => k = s.gM ∨ vp.ownBlock = some k) W s2 from by rw [HS2.out]; exact (Keeps.of_ext HY1.out (fun k => k = s.gM ∨ vp.ownBlock = some k)).trans (keeps_setBlock yy s.gM o1) (fun k e => .inl (.inl e)))
        have HO2 := Lib.hid (show s2.heap[s.gM]? = some o1 from by rw [HS2.out]; exact setBlock_at (Nat.lt_of_lt_of_le HG.out.1 HY1.out.size))
        have HLN := Lib.hid (show (plc B N' x y z).length ≤ 100000 from by have := plc_len B N' x y z; omega)
        have HBW2 := Lib.hid (show base ≤ W.heap.size from Nat.le_trans HDW.out.k.lowM (Nat.le_of_lt HG.out.1))
        refine Scr.write (o := ?o14) (fun v s' => SeqOwn encP 3 base s' v (plc B N' x y z ++ [N']) ∧ Keeps (fun k => k = s.gM ∨ vp.ownBlock = some k) W s' ∧ s'.heap[s.gM]? = some o1 ∧ (v.ownBlock = vp.ownBlock ∨ ∀ k, v.ownBlock = some k → W.heap.size ≤ k)) ?e14 ?w14 ?r14 ?n14
        case e14 => simp only [List.getElem?_toArray, List.getElem?_cons_succ, List.getElem?_cons_zero]; exact rfl
        case w14 => exact rfl
        case r14 =>
          intro w9 h9
          left
          have hv3 := HV0.out.below h9.below (Nat.le_refl _)
          have hu3 := HU0.out.below h9.below (Nat.le_refl _)
          have hsz := HK2.out.size
          have hsz9 := h9.below.size
          obtain ⟨ii, i1, i2, i3, i4⟩ := intsP.info
          have hc3 : w9.cell? ⟨g, 0, none⟩ = some (encP N') := by
            obtain ⟨b9, o9, c9, e9, -, hc9⟩ := hu3.cells (by simp)
            simp only [Value.slice.injEq, Option.some.injEq, Addr.mk.injEq] at e9
            obtain ⟨⟨rfl, rfl, -⟩, -, -⟩ := e9
            exact hc9 0 (by simp)
          obtain ⟨g2, cap2, w8, er, ho, hg, hl, hlt2⟩ := run_append_lies (P := Try.prog) (w := w9) 23 23 base 3 ii (.int .i64 0) 1 8 Try.underlying23 i1 i2 i3 i4 rfl (by omega) vp _ _ hv3.row ⟨g, 0, none⟩ 1 1 [encP N'] rfl (by intro j u hj; cases j with | zero => simp at hj; rw [← hj]; exact hc3 | succ j => simp at hj) (by intro u hu; simp at hu; rw [hu]; rfl) (by omega) (by have := HLN.out; unfold maxLen; omega) (by have := HLN.out; omega) (by have := HBW2.out; omega) _ rfl
          have hk9 : Keeps (fun k => k = s.gM ∨ vp.ownBlock = some k) W w9 := HK2.out.trans (Keeps.of_ext h9.below (fun _ => False)) (fun k h => h.elim)
          have hk8 : Keeps (fun k => k = s.gM ∨ vp.ownBlock = some k) W w8 := hk9.grown hg (fun k hk => .inl (.inr hk))
          have hro := fun (q : Nat) (hq : q < w9.heap.size) (hn : vp.ownBlock ≠ some q) => hg.block q hq (Ne.symm hn)
          refine ⟨.slice (some ⟨g2, 0, none⟩) ((plc B N' x y z).length + 1) cap2, w8, w8, ?_, ⟨⟨?_⟩, hk8, ?_, ?_⟩, ⟨?_, ?_, Below.refl _ _⟩⟩
          · simp [execOp, Act.eval, resolve, invoke, builtin, er, Result.andThen]
          · rw [List.length_append, List.map_append]; exact ho
          · have hs := lt_of_heap HO2.out
            rw [hro s.gM (by omega) (fun e => (HVM.out _ e).1 rfl), h9.below.block _ hs]; exact HO2.out
          · rcases hl with e | e
            · exact .inl e.symm
            · right; intro k hk; simp only [Value.ownBlock, Option.some.injEq] at hk; omega
          · rw [hro s.gW (lt_of_heap h9.row) (fun e => (HVM.out _ e).2.1 rfl)]; exact h9.row
          · rw [hro gX (lt_of_heap h9.key) (fun e => by have := (HVM.out _ e).2.2.1; omega)]; exact h9.key
        rintro v3 s3 ⟨hv3, hk3, ho3, hf3⟩
        have HV3 := Lib.hid hv3
        have HK3 := Lib.hid hk3
        have HO3 := Lib.hid ho3
        have HF3 := Lib.hid hf3
        clear hv3 hk3 ho3 hf3
        simp only [Act.put, List.setIfInBounds_toArray, List.set_cons_succ, List.set_cons_zero]
        refine Scr.write (o := ?o15) (fun _ s' => Dk base s' { s with P := updV P' (k3 x y z) v3 } V R T B (N' + 1) ∧ Keeps (fun k => k = s.gM ∨ vp.ownBlock = some k) W s') ?e15 ?w15 ?r15 ?n15
        case e15 => simp only [List.getElem?_toArray, List.getElem?_cons_succ, List.getElem?_cons_zero]; exact rfl
        case w15 => exact rfl
        case r15 =>
          intro w9 h9
          right
          have hs := lt_of_heap HO3.out
          have hsz := HK3.out.size
          obtain ⟨o2, e1, e2⟩ := HST.out w9 v3 ((h9.below.block _ hs).trans HO3.out) (full_of HV3.out)
          have hk9 : Keeps (fun k => k = s.gM ∨ vp.ownBlock = some k) W (Go.ChangeMaps.setBlock w9 s.gM o2) := (HK3.out.trans (Keeps.of_ext h9.below (fun _ => False)) (fun k h => h.elim)).trans (keeps_setBlock w9 s.gM o2) (fun k e => .inl (.inl e))
          have hm9 := keeps_setBlock w9 s.gM o2
          have hne : ∀ k, v3.ownBlock = some k → ¬ k = s.gM := by
            intro k hk
            rcases HF3.out with e | e
            · exact (HVM.out k (by rw [← e]; exact hk)).1
            · have := e k hk; have := HG.out.1; omega
          refine ⟨_, _, ?_, ⟨Dk.note HDW.out.k HX.out HY.out HZ.out (by show Keeps (fun k => k = s.gM ∨ (P' (k3 x y z)).ownBlock = some k) W _; rw [HVP.out]; exact hk9) ((HV3.out.below h9.below (Nat.le_refl _)).frame hm9 hne) e2 (by show v3.ownBlock = (P' (k3 x y z)).ownBlock ∨ _; rw [HVP.out]; exact HF3.out) HDW.out.row.lt, hk9⟩, ⟨(hm9.block _ (lt_of_heap h9.row) HG.out.2.1).trans h9.row, (hm9.block _ (lt_of_heap h9.key) HG.out.2.2).trans h9.key, Below.refl _ _⟩⟩
          simp [execOp, Act.eval, e1, Result.andThen]
        rintro v4 s4 ⟨hd4, hk4⟩ w7 h7
        simp only [Act.put, List.setIfInBounds_toArray, List.set_cons_succ, List.set_cons_zero]
        have hd7 := hd4.ext h7.below
        have hr7 : RowW w7 { s with P := updV P' (k3 x y z) v3 } false S N' Z := ⟨h7.row⟩
        have hk7 : Keeps (fun k => k = s.gM ∨ vp.ownBlock = some k) W w7 := hk4.trans (Keeps.of_ext h7.below (fun _ => False)) (fun k h => h.elim)
        have HD7 := Lib.hid hd7
        have HR7 := Lib.hid hr7
        have HK7 := Lib.hid hk7
        clear hd7 hr7 hk7 h7 hd4 hk4
        obtain ⟨C0, C1, C2, C3, C4, C5, C6, C7, C8⟩ := HR7.out.cells
        have eN : IntKind.i64.wrap ((N' : Int) + 1) = ((N' + 1 : Nat) : Int) := by rw [IntKind.wrap_i64]; omega
        have fz := frozen_of_row _ _ 6 _ _ HR7.out.blk
        go_wp2_with fail
        have hown : ∀ k, (k = s.gM ∨ vp.ownBlock = some k) → s.own k ∨ w.heap.size ≤ k := by
          rintro k (rfl | e)
          · exact .inl ⟨.m, rfl⟩
          · exact HN.out.fresh k ⟨.key (k3 x y z), by rw [← HVP.out] at e; exact e⟩
        have kw : Keeps s.own w W := HN.out.keeps.trans (Keeps.of_ext HBW.out (fun _ => False)) (fun k h => h.elim)
        have kw7 : Keeps s.own w w7 := kw.trans HK7.out hown
        have kset := (Keeps.refl (fun k => k = s.gW) w7).setCell s.gW 6 (.int .i64 ((N' : Int) + 1)) (.inl rfl)
        have hrow8 : RowW (w7.setCell ⟨s.gW, 6, none⟩ (.int .i64 ((N' : Int) + 1))) { s with P := updV P' (k3 x y z) v3 } false S (N' + 1) Z := ⟨heap_setCell_same _ _ _ _ _ _ HR7.out.blk⟩
        have hd8 := HD7.out.frame kset (fun q k hq hk e => by subst e; exact hq (HD7.out.apart q .w _ hk rfl))
        have hc8 := hrow8.cells.2.2.2.2.2.2.1
        have hc0 := HN.out.dw.row.cells.2.2.2.2.2.2.1
        refine ⟨⟨updV P' (k3 x y z) v3, N' + 1, ⟨⟨hrow8, hd8⟩, kw7.setCell s.gW 6 _ (.inl ⟨.w, rfl⟩), ?_⟩, by omega, by omega, .inr (by omega)⟩, ?_⟩
        · rintro k ⟨q, hq⟩
          cases q with
          | w => exact .inl ⟨.w, hq⟩
          | o => exact .inl ⟨.o, hq⟩
          | ov => exact .inl ⟨.ov, hq⟩
          | k => exact .inl ⟨.k, hq⟩
          | m => exact .inl ⟨.m, hq⟩
          | key v =>
            by_cases e : v = k3 x y z
            · subst e
              have hq2 : (updV P' (k3 x y z) v3 (k3 x y z)).ownBlock = some k := hq
              rw [updV_same] at hq2
              rcases HF3.out with e1 | e1
              · exact hown k (.inr (e1.symm.trans hq2))
              · right; have := e1 k hq2; have := kw.size; omega
            · have hq2 : (updV P' (k3 x y z) v3 v).ownBlock = some k := hq
              rw [updV_other _ _ e] at hq2
              exact HN.out.fresh k ⟨.key v, hq2⟩
        · rw [hc8, hc0]
          simp only [Option.getD_some, intOf]
          omega
      · have hNe : N' = i := by omega
        rw [hNe] at hn
        have hiB : i + 3 ≤ B.length := by have := HM.out; omega
        have him : i + m ≤ B.length := by have := HM.out; omega
        have hm3 : 3 ≤ m := by have := HM.out; omega
        clear h1 h2 h4 hlt hNe
        clear C0 C1 C2 C3 C4 C5 C6 C7 C8
        obtain ⟨x, hx⟩ : ∃ x, B.getD i 0 = x := ⟨_, rfl⟩
        obtain ⟨y, hy⟩ : ∃ x, B.getD (i + 1) 0 = x := ⟨_, rfl⟩
        obtain ⟨z, hz⟩ : ∃ x, B.getD (i + 2) 0 = x := ⟨_, rfl⟩
        obtain ⟨kb, cap, hvk, hcap, hkb, hks, hcm, -, -⟩ := hn.dw.k.kept.at_ (by omega)
        obtain ⟨vp, hvp⟩ : ∃ vp, P' (k3 x y z) = vp := ⟨_, rfl⟩
        obtain ⟨C0, C1, C2, C3, C4, C5, C6, C7, C8⟩ := hn.dw.row.cells
        have HN := Lib.hid hn
        have HX := Lib.hid hx
        have HY := Lib.hid hy
        have HZ := Lib.hid hz
        have HVP := Lib.hid hvp
        have HVK := Lib.hid hvk
        clear hn hx hy hz hvp hvk
        have hcap3 : cap ≤ 9223372036854775807 := by
          obtain ⟨a_, cap', hv', hc', hc2', -⟩ := HN.out.dw.k.kept.nums.shape
          rw [HVK.out] at hv'
          simp only [Value.slice.injEq] at hv'
          unfold maxLen at hc2'; omega
        have f3 := fun d os => cell_regrown (show wr.cell? ⟨s.gW, 3, none⟩ = some (.slice (some ⟨kb, 0, none⟩) B.length cap) from C3.trans (congrArg some HVK.out)) d os
        have f4 := fun d os => cell_regrown (show wr.cell? ⟨s.gW, 4, none⟩ = some (.int .i64 0) from C4) d os
        have eh : IntKind.i64.wrap ((i : Int) + (m : Int)) = ((i + m : Nat) : Int) := by rw [IntKind.wrap_i64]; omega
        go_upto_region 8 with (fail)
        refine wp_region_quiet_below (by kernel_rfl) (by kernel_rfl) ?_
        repeat (go_big_quiet_step (fail))
        refine wpQuiet_nil ?_
        first | (rintro _ ⟨⟨dq, osq⟩, rfl⟩) | (rintro ⟨dq, osq⟩)
        have em : i + m - i = m := by omega
        rw [em]
        clear f3 f4 eh em C0 C1 C2 C3 C4 C5 C6 C7 C8
        have hb1 := below_regrown wr dq osq
        obtain ⟨y1, hy1⟩ : ∃ ww, ww = grow (redrawn wr dq) osq := ⟨_, rfl⟩
        rw [← hy1] at hb1 ⊢
        clear hy1
        have HN1 := Lib.hid (HN.out.ext hb1)
        have HC1 := Lib.hid (show ∀ j, (hj : j < B.length) → y1.cell? ⟨kb, j, none⟩ = some (.int .u8 (B[j] : Int)) from fun j hj => (hb1.cell (p := ⟨kb, j, none⟩) hks).trans (hcm j hj))
        have hks1 : kb < y1.heap.size := Nat.lt_of_lt_of_le hks hb1.size
        clear hb1 hcm hks HN
        have HLB := Lib.hid (show x < 256 ∧ y < 256 ∧ z < 256 from ⟨by rw [← HX.out]; exact getD_lt HN1.out.dw.k.kept.bound i, by rw [← HY.out]; exact getD_lt HN1.out.dw.k.kept.bound _, by rw [← HZ.out]; exact getD_lt HN1.out.dw.k.kept.bound _⟩)
        have Q1 := Lib.hid (qb (P := Try.prog) (W := y1) (v := k3 x y z) (fun w2 hb => three_any w2 { s with P := P' } false S i Z B (HN1.out.dw.row.below hb (Nat.le_refl _)) (HN1.out.dw.k.kept.nums.below hb (Nat.le_refl _)) i hiB (by omega) x y z HX.out HY.out HZ.out))
        have hsq := (HN1.out.dw.k.keys x y z HLB.out.1 HLB.out.2.1 HLB.out.2.2).seq
        rw [show ({ s with P := P' } : Dg).P (k3 x y z) = vp from HVP.out] at hsq
        obtain ⟨L, hL⟩ : ∃ L, plc B i x y z = L := ⟨_, rfl⟩
        rw [hL] at hsq
        have hLn : L.length ≤ 100000 := by rw [← hL]; have := plc_len B i x y z; omega
        obtain ⟨va, vcap, rfl, -, hvc⟩ := hsq.open_
        have HLL := Lib.hid hL
        have HSQ := Lib.hid hsq
        have HVC := Lib.hid hvc
        have HLk := Lib.hid (show ∀ d os, (Instr.lookup 91 (.map (some s.gM)) (k3 x y z) false).run Try.prog (grow (redrawn y1 d) os) = .ok (.slice va L.length vcap) (grow (redrawn y1 d) os) from fun d os => by
          have := (HN1.out.dw.k.map_.keep ((below_regrown y1 d os).block _ HN1.out.dw.k.map_.lt)).lookup (v := k3 x y z) ⟨x, y, z, HLB.out.1, HLB.out.2.1, HLB.out.2.2, rfl⟩
          rw [show ({ s with P := P' } : Dg).P (k3 x y z) = _ from HVP.out] at this
          exact this)
        have f7 := fun d os => cell_regrown (show y1.cell? ⟨s.gW, 7, none⟩ = some (.map (some s.gM)) from HN1.out.dw.row.cells.2.2.2.2.2.2.2.1) d os
        clear hL hsq hvc
        go_upto_region 9 with (fail)
        refine wp_region_quiet_below (by kernel_rfl) (by kernel_rfl) ?_
        repeat (first | (refine wpQuiet_lookup rfl 91 (.tmp 76) (.tmp 79) rfl (.map (some s.gM)) (k3 x y z) _ rfl rfl HLk.out ?_; go_simp) | go_big_quiet_step (with_reducible exact Q1.out _ _))
        refine wpQuiet_nil ?_
        first | (rintro _ ⟨⟨dq2, osq2⟩, rfl⟩) | (rintro ⟨dq2, osq2⟩)
        have HVK2 := Lib.hid (show s.vK = .slice (some ⟨kb, 0, none⟩) B.length cap from HVK.out)
        clear HVK
        have hb2 := below_regrown y1 dq2 osq2
        obtain ⟨y2, hy2⟩ : ∃ ww, ww = grow (redrawn y1 dq2) osq2 := ⟨_, rfl⟩
        rw [← hy2] at hb2 ⊢
        clear hy2
        have HN2 := Lib.hid (HN1.out.ext hb2)
        have HC2 := Lib.hid (show ∀ (w9 : World), Below y2.heap.size y2 w9 → ∀ j, j < B.length → w9.cell? ⟨kb, j, none⟩ = some (.int .u8 ((B.getD j 0 : Nat) : Int)) from fun w9 hb9 j hj => by
          rw [hb9.cell (p := ⟨kb, j, none⟩) (Nat.lt_of_lt_of_le hks1 hb2.size), hb2.cell (p := ⟨kb, j, none⟩) hks1, HC1.out j hj]
          simp [List.getD_eq_getElem?_getD, List.getElem?_eq_getElem hj])
        have HV2 := Lib.hid (show ∀ j, (hj : j < L.length) → ∃ vb off, va = some ⟨vb, off, none⟩ ∧ ∀ (w9 : World), Below y2.heap.size y2 w9 → w9.cell? ⟨vb, off + j, none⟩ = some (.int .i64 (L[j] : Int)) from fun j hj => by
          obtain ⟨vb, off, e, hl, hc⟩ := HVC.out j hj
          refine ⟨vb, off, e, fun w9 hb9 => ?_⟩
          rw [hb9.cell (p := ⟨vb, off + j, none⟩) (Nat.lt_of_lt_of_le hl hb2.size), hb2.cell (p := ⟨vb, off + j, none⟩) hl]
          exact hc j hj)
        have hvcap : L.length ≤ vcap ∧ vcap ≤ 9223372036854775807 := by
          obtain ⟨_, cap', hv', hc', hc2', -⟩ := HSQ.out.shape
          simp only [Value.slice.injEq] at hv'
          unfold maxLen at hc2'; omega
        have HLP := Lib.hid (show ∀ j, (hj : j < L.length) → L[j] < i from fun j hj => by
          have : L[j] ∈ plc B i x y z := by rw [HLL.out]; exact List.getElem_mem hj
          exact (plc_mem.1 this).1)
        clear hb2 HC1 hks1 HN1 HVC HLk f7 Q1 HVP HSQ
        have el : IntKind.i64.wrap ((L.length : Int) - 1) = (L.length : Int) - 1 := by rw [IntKind.wrap_i64]; omega
        go_upto_region 11 with (fail)
        obtain ⟨F, hF⟩ : ∃ F, F = scan B i m L.reverse (0, 0) := ⟨_, rfl⟩
        have HF := Lib.hid hF
        have hend : ∀ (w9 : World) (st : Nat × Nat), Below y2.heap.size y2 w9 → st = F → ∃ n d P' N', Ending.returned (.tuple #[.int .i64 ((st.1 : Nat) : Int), .int .i64 ((st.2 : Nat) : Int)]) = .returned (.tuple #[.int .i64 ((n : Nat) : Int), .int .i64 ((d : Nat) : Int)]) ∧ Nw base w s V R T B S Z w9 P' N' ∧ N' ≤ i ∧ (N' = 0 ∨ N' + 2 ≤ B.length) ∧
            ((3 ≤ (matchF B i b).1 ∧ (n, d) = matchF B i b) ∨ (¬ 3 ≤ (matchF B i b).1 ∧ n < 3)) := by
          intro w9 st hb9 est
          refine ⟨st.1, st.2, P', i, rfl, HN2.out.ext hb9, Nat.le_refl _, .inr (by omega), ?_⟩
          have hs := scan_match B i b (by rw [← HM.out]; exact hm3) st (by rw [est, HF.out, ← HM.out, HX.out, HY.out, HZ.out, HLL.out])
          exact hs
        have HEND := Lib.hid hend
        clear hF hend el
        go_loopw [6, 7, 12] (fun v6 v7 v12 wr2 => ∃ (k : Nat) (st : Nat × Nat), k ≤ L.length ∧ v12 = .int .i64 ((k : Int) - 1) ∧ v6 = .int .i64 ((st.1 : Nat) : Int) ∧ v7 = .int .i64 ((st.2 : Nat) : Int) ∧ st.1 ≤ m ∧ scan B i m (L.take k).reverse st = F ∧ Below y2.heap.size y2 wr2) (fun _ _ v12 _ => (intOf v12 + 1).toNat)
        case atStart => exact ⟨L.length, (0, 0), Nat.le_refl _, rfl, rfl, rfl, Nat.zero_le _, by rw [List.take_length]; exact HF.out.symm, Below.refl _ _⟩
        case round =>
          obtain ⟨k, st, hk, rfl, rfl, rfl, hstm, hsc, hbw⟩ := hrel
          have HSC := Lib.hid hsc
          have HBW := Lib.hid hbw
          clear hsc hbw
          by_cases hk0 : k = 0
          · have dk : decide ((0 : Int) ≤ (k : Int) - 1) = false := decide_eq_false (by omega)
            go_wp2_with fail
            go_ret2
            exact HEND.out _ st HBW.out (by rw [← HSC.out, hk0]; rfl)
          · obtain ⟨j, rfl⟩ : ∃ j, k = j + 1 := ⟨k - 1, by omega⟩
            have hj : j < L.length := hk
            rw [show ((j + 1 : Nat) : Int) - 1 = (j : Int) by omega]
            have ej : (L.take (j + 1)).reverse = L[j] :: (L.take j).reverse := by rw [List.take_succ_eq_append_getElem hj, List.reverse_append]; rfl
            have hsc := HSC.out
            rw [ej] at hsc
            obtain ⟨vb, off, hva, hcell⟩ := HV2.out j hj
            have hpi := HLP.out j hj
            obtain ⟨p, hp⟩ : ∃ p, L[j] = p := ⟨_, rfl⟩
            rw [hp] at hsc hcell hpi
            subst hva
            unfold scan at hsc
            have HSC2 := Lib.hid hsc
            have HCELL := Lib.hid hcell
            clear hsc hp ej HSC hcell
            have q0 := HCELL.out _ HBW.out
            have dk : decide ((0 : Int) ≤ (j : Int)) = true := decide_eq_true (by omega)
            have ei : IntKind.i64.wrap ((i : Int) - 32768) = (i : Int) - 32768 := by rw [IntKind.wrap_i64]; omega
            by_cases hp1 : i ≤ p + 32768
            · have d2 : decide ((i : Int) - 32768 ≤ (p : Int)) = true := decide_eq_true (by omega)
              by_cases hlm : st.1 < m
              · have d3 : decide ((st.1 : Int) < (m : Int)) = true := decide_eq_true (by omega)
                have hsc := HSC2.out
                rw [if_pos ⟨hp1, hlm⟩] at hsc
                have HSC3 := Lib.hid hsc
                clear hsc HSC2
                have d4 : decide ((i : Int) ≤ (p : Int)) = false := decide_eq_false (by omega)
                have f3 := fun d os => cell_regrown (show wr.cell? ⟨s.gW, 3, none⟩ = some (.slice (some ⟨kb, 0, none⟩) B.length cap) from (HN2.out.ext HBW.out).dw.row.cells.2.2.2.1.trans (congrArg some HVK2.out)) d os
                have f4 := fun d os => cell_regrown (show wr.cell? ⟨s.gW, 4, none⟩ = some (.int .i64 0) from (HN2.out.ext HBW.out).dw.row.cells.2.2.2.2.1) d os
                have f0 := fun d os => cell_regrown q0 d os
                go_upto_region 14 with (fail)
                refine wp_region_quiet_below (by kernel_rfl) (by kernel_rfl) ?_
                repeat (go_big_quiet_step (fail))
                refine wpQuiet_nil ?_
                first | (rintro _ ⟨⟨dq3, osq3⟩, rfl⟩) | (rintro ⟨dq3, osq3⟩)
                have hb3 := below_regrown wr dq3 osq3
                obtain ⟨z3, hz3⟩ : ∃ ww, ww = grow (redrawn wr dq3) osq3 := ⟨_, rfl⟩
                rw [← hz3] at hb3 ⊢
                clear hz3
                have HB3 := Lib.hid (HBW.out.trans (hb3.mono HBW.out.size))
                clear hb3
                clear f3 f4 f0
                obtain ⟨c1, hc1⟩ : ∃ c, B.getD (p + st.1) 0 = c := ⟨_, rfl⟩
                obtain ⟨c2, hc2⟩ : ∃ c, B.getD (i + st.1) 0 = c := ⟨_, rfl⟩
                obtain ⟨lg, hlg⟩ : ∃ lg, lg = st.1 := ⟨_, rfl⟩
                rw [← hlg] at hc1 hc2 hlm d3 hstm ⊢
                have g1 := fun d os => cell_regrown ((HC2.out z3 HB3.out (p + lg) (by omega)).trans (by rw [hc1])) d os
                have g2 := fun d os => cell_regrown ((HC2.out z3 HB3.out (i + lg) (by omega)).trans (by rw [hc2])) d os
                have HLG := Lib.hid hlg
                have HC1 := Lib.hid hc1
                have HC3 := Lib.hid hc2
                clear hlg hc1 hc2
                go_upto_region 15 with (fail)
                refine wp_region_quiet_below (by kernel_rfl) (by kernel_rfl) ?_
                repeat (go_big_quiet_step (fail))
                refine wpQuiet_nil ?_
                first | (rintro _ ⟨⟨dq4, osq4⟩, rfl⟩) | (rintro ⟨dq4, osq4⟩)
                have hb4 := below_regrown z3 dq4 osq4
                obtain ⟨z4, hz4⟩ : ∃ ww, ww = grow (redrawn z3 dq4) osq4 := ⟨_, rfl⟩
                rw [← hz4] at hb4 ⊢
                clear hz4
                have HB4 := Lib.hid (HB3.out.trans (hb4.mono HB3.out.size))
                clear hb4
                clear g1 g2
                have ed : IntKind.i64.wrap ((j : Int) - 1) = (j : Int) - 1 := by rw [IntKind.wrap_i64]; omega
                by_cases hcc : c1 = c2
                · have db : ((c1 : Int) != (c2 : Int)) = false := by simp [hcc]
                  go_upto_region 17 with (fail)
                  go_loopw [14] (fun v14 wr5 => ∃ n : Nat, n ≤ m ∧ v14 = .int .i64 (n : Int) ∧ (∀ t, t < n → B.getD (p + t) 0 = B.getD (i + t) 0) ∧ Below y2.heap.size y2 wr5) (fun v14 _ => m - (intOf v14).toNat)
                  case atStart => exact ⟨0, by omega, rfl, fun t ht => absurd ht (by omega), HB4.out⟩
                  case round =>
                    obtain ⟨n, hnm2, rfl, hsame, hb5⟩ := hrel
                    have HB5 := Lib.hid hb5
                    have HSM := Lib.hid hsame
                    clear hb5 hsame
                    by_cases hnm : n < m
                    · have d5 : decide ((n : Int) < (m : Int)) = true := decide_eq_true (by omega)
                      obtain ⟨e1, he1⟩ : ∃ e, B.getD (p + n) 0 = e := ⟨_, rfl⟩
                      obtain ⟨e2, he2⟩ : ∃ e, B.getD (i + n) 0 = e := ⟨_, rfl⟩
                      have g1 := fun d os => cell_regrown ((HC2.out wr HB5.out (p + n) (by omega)).trans (by rw [he1])) d os
                      have g2 := fun d os => cell_regrown ((HC2.out wr HB5.out (i + n) (by omega)).trans (by rw [he2])) d os
                      have HE1 := Lib.hid he1
                      have HE2 := Lib.hid he2
                      clear he1 he2
                      by_cases hee : e1 = e2
                      · have de : ((e1 : Int) == (e2 : Int)) = true := by simp [hee]
                        go_upto_region 17 with (fail)
                        refine wp_region_quiet_below (by kernel_rfl) (by kernel_rfl) ?_
                        repeat (go_big_quiet_step (fail))
                        refine wpQuiet_nil ?_
                        first | (rintro _ ⟨⟨dq6, osq6⟩, rfl⟩) | (rintro ⟨dq6, osq6⟩)
                        have hb6 := below_regrown wr dq6 osq6
                        obtain ⟨z6, hz6⟩ : ∃ ww, ww = grow (redrawn wr dq6) osq6 := ⟨_, rfl⟩
                        rw [← hz6] at hb6 ⊢
                        clear hz6
                        have HB6 := Lib.hid (HB5.out.trans (hb6.mono HB5.out.size))
                        clear hb6
                        clear g1 g2
                        have en : IntKind.i64.wrap ((n : Int) + 1) = ((n + 1 : Nat) : Int) := by rw [IntKind.wrap_i64]; omega
                        go_wp2_with fail
                        refine ⟨⟨n + 1, by omega, rfl, fun t ht => ?_, HB6.out⟩, by simp only [intOf]; omega⟩
                        rcases Nat.lt_or_ge t n with h9 | h9
                        · exact HSM.out t h9
                        · obtain rfl : t = n := by omega
                          rw [HE1.out, HE2.out]; exact hee
                      · have de : ((e1 : Int) == (e2 : Int)) = false := by simp; omega
                        go_upto_region 17 with (fail)
                        refine wp_region_quiet_below (by kernel_rfl) (by kernel_rfl) ?_
                        repeat (go_big_quiet_step (fail))
                        refine wpQuiet_nil ?_
                        first | (rintro _ ⟨⟨dq6, osq6⟩, rfl⟩) | (rintro ⟨dq6, osq6⟩)
                        have hb6 := below_regrown wr dq6 osq6
                        obtain ⟨z6, hz6⟩ : ∃ ww, ww = grow (redrawn wr dq6) osq6 := ⟨_, rfl⟩
                        rw [← hz6] at hb6 ⊢
                        clear hz6
                        have HB6 := Lib.hid (HB5.out.trans (hb6.mono HB5.out.size))
                        clear hb6
                        clear g1 g2
                        have HCOM := Lib.hid (com_unique B m p i n hnm2 HSM.out (fun _ => by rw [HE1.out, HE2.out]; exact hee))
                        by_cases hup : lg < n
                        · have d6 : decide ((lg : Int) < (n : Int)) = true := decide_eq_true (by omega)
                          have f0 := fun d os => cell_regrown (HCELL.out z6 HB6.out) d os
                          have ew : IntKind.i64.wrap ((i : Int) - (p : Int)) = ((i - p : Nat) : Int) := by rw [IntKind.wrap_i64]; omega
                          go_upto_region 20 with (fail)
                          refine wp_region_quiet_below (by kernel_rfl) (by kernel_rfl) ?_
                          repeat (go_big_quiet_step (fail))
                          refine wpQuiet_nil ?_
                          first | (rintro _ ⟨⟨dq7, osq7⟩, rfl⟩) | (rintro ⟨dq7, osq7⟩)
                          have hb7 := below_regrown z6 dq7 osq7
                          obtain ⟨z7, hz7⟩ : ∃ ww, ww = grow (redrawn z6 dq7) osq7 := ⟨_, rfl⟩
                          rw [← hz7] at hb7 ⊢
                          clear hz7
                          have HB7 := Lib.hid (HB6.out.trans (hb7.mono HB6.out.size))
                          clear hb7
                          clear f0
                          go_wp2_with fail
                          refine ⟨⟨j, (n, i - p), by omega, rfl, rfl, rfl, hnm2, ?_, HB7.out⟩, by simp only [intOf]; omega⟩
                          rw [← HSC3.out, if_pos (by rw [← HLG.out, HC1.out, HC3.out]; exact hcc)]
                          unfold upd
                          rw [HCOM.out, ← HLG.out, if_pos hup]
                        · have d6 : decide ((lg : Int) < (n : Int)) = false := decide_eq_false (by omega)
                          go_wp2_with fail
                          refine ⟨⟨j, st, by omega, rfl, by rw [HLG.out], rfl, by rw [← HLG.out]; exact hstm, ?_, HB6.out⟩, by simp only [intOf]; omega⟩
                          rw [← HSC3.out, if_pos (by rw [← HLG.out, HC1.out, HC3.out]; exact hcc)]
                          unfold upd
                          rw [HCOM.out, ← HLG.out, if_neg hup]
                    · have d5 : decide ((n : Int) < (m : Int)) = false := decide_eq_false (by omega)
                      go_upto_region 17 with (fail)
                      refine wp_region_quiet_below (by kernel_rfl) (by kernel_rfl) ?_
                      repeat (go_big_quiet_step (fail))
                      refine wpQuiet_nil ?_
                      first | (rintro _ ⟨⟨dq6, osq6⟩, rfl⟩) | (rintro ⟨dq6, osq6⟩)
                      have hb6 := below_regrown wr dq6 osq6
                      obtain ⟨z6, hz6⟩ : ∃ ww, ww = grow (redrawn wr dq6) osq6 := ⟨_, rfl⟩
                      rw [← hz6] at hb6 ⊢
                      clear hz6
                      have HB6 := Lib.hid (HB5.out.trans (hb6.mono HB5.out.size))
                      clear hb6
                      have HCOM := Lib.hid (com_unique B m p i n hnm2 HSM.out (fun h9 => absurd h9 hnm))
                      by_cases hup : lg < n
                      · have d6 : decide ((lg : Int) < (n : Int)) = true := decide_eq_true (by omega)
                        have f0 := fun d os => cell_regrown (HCELL.out z6 HB6.out) d os
                        have ew : IntKind.i64.wrap ((i : Int) - (p : Int)) = ((i - p : Nat) : Int) := by rw [IntKind.wrap_i64]; omega
                        go_upto_region 20 with (fail)
                        refine wp_region_quiet_below (by kernel_rfl) (by kernel_rfl) ?_
                        repeat (go_big_quiet_step (fail))
                        refine wpQuiet_nil ?_
                        first | (rintro _ ⟨⟨dq7, osq7⟩, rfl⟩) | (rintro ⟨dq7, osq7⟩)
                        have hb7 := below_regrown z6 dq7 osq7
                        obtain ⟨z7, hz7⟩ : ∃ ww, ww = grow (redrawn z6 dq7) osq7 := ⟨_, rfl⟩
                        rw [← hz7] at hb7 ⊢
                        clear hz7
                        have HB7 := Lib.hid (HB6.out.trans (hb7.mono HB6.out.size))
                        clear hb7
                        clear f0
                        go_wp2_with fail
                        refine ⟨⟨j, (n, i - p), by omega, rfl, rfl, rfl, hnm2, ?_, HB7.out⟩, by simp only [intOf]; omega⟩
                        rw [← HSC3.out, if_pos (by rw [← HLG.out, HC1.out, HC3.out]; exact hcc)]
                        unfold upd
                        rw [HCOM.out, ← HLG.out, if_pos hup]
                      · have d6 : decide ((lg : Int) < (n : Int)) = false := decide_eq_false (by omega)
                        go_wp2_with fail
                        refine ⟨⟨j, st, by omega, rfl, by rw [HLG.out], rfl, by rw [← HLG.out]; exact hstm, ?_, HB6.out⟩, by simp only [intOf]; omega⟩
                        rw [← HSC3.out, if_pos (by rw [← HLG.out, HC1.out, HC3.out]; exact hcc)]
                        unfold upd
                        rw [HCOM.out, ← HLG.out, if_neg hup]
                · have db : ((c1 : Int) != (c2 : Int)) = true := by simp; omega
                  go_wp2_with fail
                  refine ⟨⟨j, st, by omega, rfl, by rw [HLG.out], rfl, by rw [← HLG.out]; exact hstm, ?_, HB4.out⟩, by simp only [intOf]; omega⟩
                  rw [← HSC3.out, if_neg (by rw [← HLG.out, HC1.out, HC3.out]; exact hcc)]
              · have d3 : decide ((st.1 : Int) < (m : Int)) = false := decide_eq_false (by omega)
                go_wp2_with fail
                go_ret2
                exact HEND.out _ st HBW.out (by rw [← HSC2.out, if_neg (fun h => hlm h.2)])
            · have d2 : decide ((i : Int) - 32768 ≤ (p : Int)) = false := decide_eq_false (by omega)
              go_wp2_with fail
              go_ret2
              exact HEND.out _ st HBW.out (by rw [← HSC2.out, if_neg (fun h => hp1 h.1)])
end Go.Proofs.Ytighlefajekloaa.DefU
