/- Package deflate: three. -/
import Derived.Test.YtighlefajekloaaDefS
import Derived.Test.YtighlefajekloaaQu
import Derived.Deep.RegionWith
import Derived.Deep.QuietTactic
import Derived.BigQuiet
set_option linter.unusedVariables false
set_option linter.unusedSimpArgs false
namespace Go.Proofs.Ytighlefajekloaa.DefT
open Go.RowKit Go.Sort BitsM Base Low BitsW BitsX BitsS MapA DefM DefN DefS Qb Qt
theorem _root_.Go.Proofs.Ytighlefajekloaa.DefS.RowW.cells {w : World} {s : Dg} {ended : Bool} {S N Z : Nat} (h : RowW w s ended S N Z) : w.cell? ⟨s.gW, 0, none⟩ = some (.bool true) ∧ w.cell? ⟨s.gW, 1, none⟩ = some (.bool ended) ∧ w.cell? ⟨s.gW, 2, none⟩ = some (.pointer (some ⟨s.gO, 0, none⟩)) ∧ w.cell? ⟨s.gW, 3, none⟩ = some s.vK ∧
    w.cell? ⟨s.gW, 4, none⟩ = some (.int .i64 0) ∧ w.cell? ⟨s.gW, 5, none⟩ = some (.int .i64 (S : Int)) ∧ w.cell? ⟨s.gW, 6, none⟩ = some (.int .i64 (N : Int)) ∧ w.cell? ⟨s.gW, 7, none⟩ = some (.map (some s.gM)) ∧ w.cell? ⟨s.gW, 8, none⟩ = some (.int .i64 (Z : Int)) := by
  have c := fun j => cell_of_row _ _ j _ _ _ h.blk
  refine ⟨c 0, c 1, c 2, c 3, c 4, c 5, c 6, c 7, c 8⟩
theorem wpQuiet_array {P : Program} {ops : Array Oper} {W : World} {Q : Act → Prop} {rest : List Oper} {o : Oper} {a : Act} (hgd : Region.wanted o (yielded ops a.tmps) = true) (arr : TypeId) (x : Operand)
    (ho : o.op = .sliceToArrayPointer arr x) (n : Nat) (e : TypeId) (hu : P.underlying arr = some (.array n e)) (ad : Addr) (len cap : Nat) (hx : a.eval x = .slice (some ad) len cap) (hn : n ≤ len)
    (h : wpQuiet P ops (fun w' => ∃ p : Regrown, w' = grow (redrawn W p.d) p.os) Q rest (a.put o.dst (.pointer (some ad)))) : wpQuiet P ops (fun w' => ∃ p : Regrown, w' = grow (redrawn W p.d) p.os) Q (o :: rest) a := by
  refine BigFrame.wpQuiet_want hgd fun K hK => ⟨.pointer (some ad), fun w hw => ?_, hK _ h⟩
  obtain ⟨p, rfl⟩ := hw
  unfold Oper.quietAt execOp
  simp only [ho, hx, Instr.arrayAt, Sem.run_bind, Sem.run_pure, Result.andThen_ok, run_underlying hu, if_neg (show ¬ len < n by omega), Oper.quietUpon]
  first | exact ⟨rfl, rfl⟩ | exact ⟨trivial, trivial⟩ | trivial
theorem size_k : (Try.prog.info? 120).map (·.size) = some 3 := by kernel_rfl
theorem store_k {ops : Array Oper} {rest : List Oper} {o : Oper} {a : Act} {w : World} {Q : Exit → Act → World → Prop} (hgd : o.guard = none) (x y : Operand) (ho : o.op = .store 120 x y) (hd : o.dst = none)
    (g : Nat) (k1 k2 k3 : Int) (hx : a.eval x = .pointer (some ⟨g, 0, none⟩)) (hy : a.eval y = .agg #[.int .u8 k1, .int .u8 k2, .int .u8 k3]) (cur : Array Value) (hg : w.heap[g]? = some (.cells cur 120)) (hc2 : cur.size = 3)
    (h : wpList Try.prog ops Q rest a (w.setRow g #[.int .u8 k1, .int .u8 k2, .int .u8 k3])) : wpList Try.prog ops Q (o :: rest) a w :=
  wpList_store_arr hgd 120 x y ho g _ hx hy 120 cur hg size_k (by rw [hc2]; rfl) (by intro v hv; simp at hv; rcases hv with rfl | rfl | rfl <;> rfl) hd h
set_option maxRecDepth 100000 in
set_option maxHeartbeats 1000000 in
theorem three_any (w : World) (s : Dg) (ended : Bool) (S N Z : Nat) (B : List Nat) (h : RowW w s ended S N Z) (hK : Nums .u8 256 w s.vK B) (i : Nat) (hi : i + 3 ≤ B.length) (hB : B.length ≤ 140737488355328) (x y z : Nat) (h0 : B.getD i 0 = x) (h1 : B.getD (i + 1) 0 = y) (h2 : B.getD (i + 2) 0 = z) :
    Calls Try.prog 70 #[.pointer (some ⟨s.gW, 0, none⟩), .int .i64 (i : Int)] w fun e w' => e = .returned (k3 x y z) ∧ Below w.heap.size w w' := by
  obtain ⟨b, off, cap, hv, hc1, hc2⟩ := hK.cells (by intro e; rw [e] at hi; simp at hi)
  obtain ⟨a_, cap', hv', hcap⟩ := hK.shape
  have hcap2 : B.length ≤ cap := by rw [hv] at hv'; simp only [Value.slice.injEq] at hv'; omega
  have hcap3 : cap ≤ 9223372036854775807 := by rw [hv] at hv'; simp only [Value.slice.injEq] at hv'; unfold maxLen at hcap; omega
  have hl := h.lt
  have ho := ext_alloc w (.cells #[.int .u8 0, .int .u8 0, .int .u8 0] 120)
  have hr := h.below ho (Nat.le_refl _)
  have hn := heap_alloc_new w (.cells #[.int .u8 0, .int .u8 0, .int .u8 0] 120)
  have g : ∀ k, k < 3 → (w.alloc (.cells #[.int .u8 0, .int .u8 0, .int .u8 0] 120)).cell? ⟨b, off + i + k, none⟩ = some (.int .u8 (B.getD (i + k) 0 : Nat)) := by
    intro k hk
    have := hc2 (i + k) (by omega)
    rw [ho.cell (p := ⟨b, off + i + k, none⟩) hc1, Nat.add_assoc, this]
    simp [List.getD_eq_getElem?_getD, List.getElem?_eq_getElem (show i + k < B.length by omega)]
  go_enter Try.func70, Try.ntmps70
  go_upto_region 1 with (fail)
  obtain ⟨W, hW⟩ : ∃ ww, ww = w.alloc (.cells #[.int .u8 0, .int .u8 0, .int .u8 0] 120) := ⟨_, rfl⟩
  rw [← hW] at ho hr hn g ⊢
  have HN := Lib.hid hn
  have HO := Lib.hid ho
  clear hW hn ho
  obtain ⟨C0, C1, C2, C3, C4, C5, C6, C7, C8⟩ := hr.cells
  have f3 := fun d os => cell_regrown C3 d os
  have f4 := fun d os => cell_regrown C4 d os
  have g0 := fun d os => cell_regrown (show W.cell? ⟨b, off + i, none⟩ = some (.int .u8 (x : Int)) from (g 0 (by omega)).trans (by rw [Nat.add_zero, h0])) d os
  have g1 := fun d os => cell_regrown (show W.cell? ⟨b, off + i + 1, none⟩ = some (.int .u8 (y : Int)) from (g 1 (by omega)).trans (by rw [h1])) d os
  have g2 := fun d os => cell_regrown (show W.cell? ⟨b, off + i + 2, none⟩ = some (.int .u8 (z : Int)) from (g 2 (by omega)).trans (by rw [h2])) d os
  rw [hv] at f3
  clear g hr C0 C1 C2 C3 C4 C5 C6 C7 C8 h hK hc2 hv hv' hcap h0 h1 h2
  refine wp_region_below_tail 13 (by kernel_rfl) (by kernel_rfl) ?_
  simp only [List.take_succ_cons, List.take_zero, List.drop_succ_cons, List.drop_zero]
  repeat (go_big_quiet_step (fail))
  refine wpQuiet_array rfl 120 (.tmp 15) rfl 3 5 Try.underlying120 _ (B.length - i) (cap - i) rfl (by omega) ?_
  go_simp
  go_big_quiet_step (fail)
  refine wpQuiet_nil ?_
  first | (rintro _ ⟨⟨dq, osq⟩, rfl⟩) | (rintro ⟨dq, osq⟩)
  have hb := below_regrown W dq osq
  have HM := Lib.hid (heap_regrown HN.out dq osq)
  have HP := Lib.hid (HO.out.trans (hb.mono HO.out.size))
  clear hb HN HO f3 f4 g0 g1 g2
  obtain ⟨W2, hW2⟩ : ∃ ww, ww = grow (redrawn W dq) osq := ⟨_, rfl⟩
  rw [← hW2] at HM HP ⊢
  clear hW2
  go_wp2_with (with_reducible refine store_k rfl (.tmp 4) (.tmp 17) rfl rfl w.heap.size (x : Int) (y : Int) (z : Int) rfl rfl _ HM.out rfl ?_)
  refine bodyPost_ret (results_cell_row rfl _ _ w.heap.size 120 _ _ _ rfl (setRow_heap _ _ _ _ _ _ HM.out) Try.underlying120 rfl size_k) rfl ⟨rfl, below_setRow_new HP.out (Nat.le_refl _) _⟩
end Go.Proofs.Ytighlefajekloaa.DefT
