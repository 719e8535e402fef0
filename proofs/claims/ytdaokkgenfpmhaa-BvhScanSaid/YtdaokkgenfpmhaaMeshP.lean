/- The walk of mesh.Box. -/
import Derived.Test.YtdaokkgenfpmhaaMe
import Derived.Test.YtdaokkgenfpmhaaFa
import Derived.Test.YtdaokkgenfpmhaaQu
set_option linter.unusedVariables false
set_option linter.unusedSimpArgs false
namespace Go.Proofs.Ytdaokkgenfpmhaa.MeshP
open Go.RowKit Go.Sort FixM Base Num FixW Qb Qt Qa Qf VecW VecV VecU LightQ LightC MeshM Rec MeshA MeshB MeshC MeshD MeshE

structure Bx where
  lo : V3
  hi : V3
def boxV (b : Bx) : Value := .agg #[.int .i64 b.lo.x, .int .i64 b.lo.y, .int .i64 b.lo.z, .int .i64 b.hi.x, .int .i64 b.hi.y, .int .i64 b.hi.z]
def zeroB : Bx := ⟨⟨0, 0, 0⟩, ⟨0, 0, 0⟩⟩
def min3 (x y z : Int) : Int := if z < (if y < x then y else x) then z else (if y < x then y else x)
def max3 (x y z : Int) : Int := if z > (if y > x then y else x) then z else (if y > x then y else x)
def triB (a b c : V3) : Bx := ⟨⟨min3 a.x b.x c.x, min3 a.y b.y c.y, min3 a.z b.z c.z⟩, ⟨max3 a.x b.x c.x, max3 a.y b.y c.y, max3 a.z b.z c.z⟩⟩
def ballB (b : B4) : Bx := ⟨⟨subF b.c.x b.r, subF b.c.y b.r, subF b.c.z b.r⟩, ⟨addF b.c.x b.r, addF b.c.y b.r, addF b.c.z b.r⟩⟩
def v0 : V3 := ⟨0, 0, 0⟩
def ptF (m : Msh) (x : Int) : V3 := m.ps.getD x.toNat v0
def triF (m : Msh) (t : V3) : Bx := if hasF m.ps.length t then triB (ptF m t.x) (ptF m t.y) (ptF m t.z) else zeroB
def boxF (m : Msh) (i : Int) : Bx :=
  if i < 0 ∨ (m.ts.length : Int) + (m.bs.length : Int) ≤ i then zeroB
  else if i < (m.ts.length : Int) then triF m (m.ts.getD i.toNat v0)
  else ballB (m.bs.getD (i - (m.ts.length : Int)).toNat ⟨v0, 0⟩)
theorem box_size : (Try.prog.info? 56).map (·.size) = some 6 := by kernel_rfl
theorem ones6 (a b c d e f : Int) : ∀ v ∈ (#[Value.int .i64 a, .int .i64 b, .int .i64 c, .int .i64 d, .int .i64 e, .int .i64 f] : Array Value).toList, v.oneCell' = true := by
  intro v hv; simp at hv; rcases hv with rfl | rfl | rfl | rfl | rfl | rfl <;> rfl
theorem store_box {ops : Array Oper} {rest : List Oper} {o : Oper} {a : Act} {w : World} {Q : Exit → Act → World → Prop} (hgd : o.guard = none) (x y : Operand) (ho : o.op = .store 56 x y) (hd : o.dst = none)
    (g : Nat) (A B C D E F : Int) (hx : a.eval x = .pointer (some ⟨g, 0, none⟩)) (hy : a.eval y = .agg #[.int .i64 A, .int .i64 B, .int .i64 C, .int .i64 D, .int .i64 E, .int .i64 F]) (cur : Array Value) (hg : w.heap[g]? = some (.cells cur 56)) (hc2 : cur.size = 6)
    (h : wpList Try.prog ops Q rest a (w.setRow g #[.int .i64 A, .int .i64 B, .int .i64 C, .int .i64 D, .int .i64 E, .int .i64 F])) : wpList Try.prog ops Q (o :: rest) a w :=
  wpList_store_arr hgd 56 x y ho g _ hx hy 56 cur hg box_size (by rw [hc2]; rfl) (ones6 _ _ _ _ _ _) hd h
theorem min_at {x y z n : Int} (h : n = min3 x y z) (ts : Array TypeId) (t : TypeId) (w : World) : (Builtin.min_ ts t #[.int .i64 x, .int .i64 y, .int .i64 z]).run Try.prog w = .ok (.int .i64 n) w := by
  rw [h]; simp [Builtin.min_, Builtin.min2, min3]
theorem max_at {x y z n : Int} (h : n = max3 x y z) (ts : Array TypeId) (t : TypeId) (w : World) : (Builtin.max_ ts t #[.int .i64 x, .int .i64 y, .int .i64 z]).run Try.prog w = .ok (.int .i64 n) w := by
  rw [h]; simp [Builtin.max_, Builtin.max2, max3]
theorem alloc_vec (w : World) : (Instr.alloc 23 true (.tuple #[])).run Try.prog w = .ok (.pointer (some ⟨w.heap.size, 0, none⟩)) (w.alloc (box3 ⟨0, 0, 0⟩)) := by kernel_rfl
theorem row_one (a b c : Int) : (#[Value.int .i64 a, .int .i64 b, .int .i64 c] : Array Value).all (·.oneCell') = true := by
  rw [Array.all_eq_true_iff_forall_mem]
  intro v hv
  exact ones3 a b c v (by simpa using hv)
abbrev mvals (a0 : Option Addr) (n0 c0 : Nat) (a1 : Option Addr) (n1 c1 : Nat) (a2 : Option Addr) (n2 c2 : Nat) : Value := .agg #[.slice a0 n0 c0, .slice a1 n1 c1, .slice a2 n2 c2]
abbrev W2 (w : World) (a0 : Option Addr) (n0 c0 : Nat) (a1 : Option Addr) (n1 c1 : Nat) (a2 : Option Addr) (n2 c2 : Nat) : World := (w.alloc (.cells #[.slice a0 n0 c0, .slice a1 n1 c1, .slice a2 n2 c2] 31)).alloc (.cells #[.int .i64 0, .int .i64 0, .int .i64 0, .int .i64 0, .int .i64 0, .int .i64 0] 56)

set_option maxRecDepth 100000 in
set_option maxHeartbeats 4000000 in
theorem box_neg (w : World) (a0 : Option Addr) (n0 c0 : Nat) (a1 : Option Addr) (n1 c1 : Nat) (a2 : Option Addr) (n2 c2 : Nat) (i : Int) (h : i < 0) : Calls Try.prog 22 #[mvals a0 n0 c0 a1 n1 c1 a2 n2 c2, .int .i64 i] w (VTo (boxV zeroB) w) := by
  have d0 : decide (i < 0) = true := decide_eq_true h
  clear h
  obtain ⟨W, hW⟩ : ∃ W, W = W2 w a0 n0 c0 a1 n1 c1 a2 n2 c2 := ⟨_, rfl⟩
  have hB : Below w.heap.size w W := by rw [hW]; exact alloc2_below _ _ _
  have hR : W.heap[w.heap.size]? = some (.cells #[.slice a0 n0 c0, .slice a1 n1 c1, .slice a2 n2 c2] 31) := by rw [hW]; exact alloc2_0 _ _ _
  have hZ : W.heap[w.heap.size + 1]? = some (.cells #[.int .i64 0, .int .i64 0, .int .i64 0, .int .i64 0, .int .i64 0, .int .i64 0] 56) := by rw [hW]; exact alloc2_1 _ _ _
  have k0 := cell_row hR 0 (.slice a0 n0 c0) rfl
  have k1 := cell_row hR 1 (.slice a1 n1 c1) rfl
  have k2 := cell_row hR 2 (.slice a2 n2 c2) rfl
  have HR := Lib.hid hR
  have HB := Lib.hid hB
  have HZ := Lib.hid hZ
  have HWW := Lib.hid hW
  rw [hW] at k0 k1 k2
  clear hR hB hZ hW
  unfold mvals W2 at *
  clear HR HB HZ HWW
  go_enter Try.func22, Try.ntmps22
  go_wp2_with (with_reducible refine store_box rfl (.tmp 4) (.tmp 18) rfl rfl (w.heap.size + 1) 0 0 0 0 0 0 rfl rfl _ (alloc2_1 _ _ _) rfl ?_)
  refine bodyPost_ret (results_cell_row rfl _ _ (w.heap.size + 1) 56 _ _ _ rfl (setRow_heap _ (w.heap.size + 1) _ _ _ _ (alloc2_1 _ _ _)) Try.underlying56 rfl box_size) rfl ?_
  exact ⟨rfl, below_setRow (alloc2_below _ _ _) (by omega) _⟩

set_option maxRecDepth 100000 in
set_option maxHeartbeats 4000000 in
theorem box_far (w : World) (a0 : Option Addr) (n0 c0 : Nat) (a1 : Option Addr) (n1 c1 : Nat) (a2 : Option Addr) (n2 c2 : Nat) (N : Int) (hN : N = (n1 : Int) + (n2 : Int)) (CT : Hid (∀ w', Below w.heap.size w w' → Calls Try.prog 12 #[mvals a0 n0 c0 a1 n1 c1 a2 n2 c2] w' (VTo (.int .i64 N) w'))) (i : Int) (h0 : 0 ≤ i) (h : N ≤ i) : Calls Try.prog 22 #[mvals a0 n0 c0 a1 n1 c1 a2 n2 c2, .int .i64 i] w (VTo (boxV zeroB) w) := by
  have d0 : decide (i < 0) = false := decide_eq_false (by omega)
  have d1 : decide (N ≤ i) = true := decide_eq_true h
  clear h h0 hN
  obtain ⟨W, hW⟩ : ∃ W, W = W2 w a0 n0 c0 a1 n1 c1 a2 n2 c2 := ⟨_, rfl⟩
  have hB : Below w.heap.size w W := by rw [hW]; exact alloc2_below _ _ _
  have hR : W.heap[w.heap.size]? = some (.cells #[.slice a0 n0 c0, .slice a1 n1 c1, .slice a2 n2 c2] 31) := by rw [hW]; exact alloc2_0 _ _ _
  have hZ : W.heap[w.heap.size + 1]? = some (.cells #[.int .i64 0, .int .i64 0, .int .i64 0, .int .i64 0, .int .i64 0, .int .i64 0] 56) := by rw [hW]; exact alloc2_1 _ _ _
  have k0 := cell_row hR 0 (.slice a0 n0 c0) rfl
  have k1 := cell_row hR 1 (.slice a1 n1 c1) rfl
  have k2 := cell_row hR 2 (.slice a2 n2 c2) rfl
  have HR := Lib.hid hR
  have HB := Lib.hid hB
  have HZ := Lib.hid hZ
  have HWW := Lib.hid hW
  rw [hW] at k0 k1 k2
  clear hR hB hZ hW
  unfold mvals W2 at *
  go_enter Try.func22, Try.ntmps22
  go_wp2_with fail
  rw [← HWW.out]
  clear k0 k1 k2
  refine (CT.out _ HB.out).mono ?_
  rintro e w1 ⟨rfl, hb1⟩
  have HB1 := Lib.hid (HB.out.trans (hb1.mono HB.out.size))
  have HZ1 := Lib.hid (vec_step HZ.out hb1)
  clear hb1
  go_wp2_with (with_reducible refine store_box rfl (.tmp 4) (.tmp 18) rfl rfl (w.heap.size + 1) 0 0 0 0 0 0 rfl rfl _ HZ1.out rfl ?_)
  refine bodyPost_ret (results_cell_row rfl _ _ (w.heap.size + 1) 56 _ _ _ rfl (setRow_heap _ (w.heap.size + 1) _ _ _ _ (HZ1.out)) Try.underlying56 rfl box_size) rfl ?_
  exact ⟨rfl, below_setRow HB1.out (by omega) _⟩

theorem ball_size : (Try.prog.info? 71).map (·.size) = some 4 := by kernel_rfl
theorem ones4 (a b c d : Int) : ∀ v ∈ (#[Value.int .i64 a, .int .i64 b, .int .i64 c, .int .i64 d] : Array Value).toList, v.oneCell' = true := by
  intro v hv; simp at hv; rcases hv with rfl | rfl | rfl | rfl <;> rfl
theorem store_ball {ops : Array Oper} {rest : List Oper} {o : Oper} {a : Act} {w : World} {Q : Exit → Act → World → Prop} (hgd : o.guard = none) (x y : Operand) (ho : o.op = .store 71 x y) (hd : o.dst = none)
    (g : Nat) (A B C D : Int) (hx : a.eval x = .pointer (some ⟨g, 0, none⟩)) (hy : a.eval y = .agg #[.int .i64 A, .int .i64 B, .int .i64 C, .int .i64 D]) (cur : Array Value) (hg : w.heap[g]? = some (.cells cur 71)) (hc2 : cur.size = 4)
    (h : wpList Try.prog ops Q rest a (w.setRow g #[.int .i64 A, .int .i64 B, .int .i64 C, .int .i64 D])) : wpList Try.prog ops Q (o :: rest) a w :=
  wpList_store_arr hgd 71 x y ho g _ hx hy 71 cur hg ball_size (by rw [hc2]; rfl) (ones4 _ _ _ _) hd h
theorem put4_row (w : World) (T : TypeId) (cur row : Array Value) : ((w.alloc (.cells cur T)).setRow w.heap.size row).heap[w.heap.size]? = some (.cells row T) :=
  setRow_heap (w.alloc (.cells cur T)) w.heap.size _ row _ _ (heap_alloc_new _ _)
theorem put_ext (w : World) (o : Obj) (row : Array Value) : Below w.heap.size w ((w.alloc o).setRow w.heap.size row) := below_setRow (ext_alloc w o) (Nat.le_refl _) _

theorem tri_size : (Try.prog.info? 68).map (·.size) = some 3 := by kernel_rfl
theorem store_tri {ops : Array Oper} {rest : List Oper} {o : Oper} {a : Act} {w : World} {Q : Exit → Act → World → Prop} (hgd : o.guard = none) (x y : Operand) (ho : o.op = .store 68 x y) (hd : o.dst = none)
    (g : Nat) (A B C : Int) (hx : a.eval x = .pointer (some ⟨g, 0, none⟩)) (hy : a.eval y = .agg #[.int .i64 A, .int .i64 B, .int .i64 C]) (cur : Array Value) (hg : w.heap[g]? = some (.cells cur 68)) (hc2 : cur.size = 3)
    (h : wpList Try.prog ops Q rest a (w.setRow g #[.int .i64 A, .int .i64 B, .int .i64 C])) : wpList Try.prog ops Q (o :: rest) a w :=
  wpList_store_arr hgd 68 x y ho g _ hx hy 68 cur hg tri_size (by rw [hc2]; rfl) (ones3 _ _ _) hd h

set_option maxRecDepth 100000 in
set_option maxHeartbeats 4000000 in
theorem box_ball (w : World) (a0 : Option Addr) (n0 c0 : Nat) (a1 : Option Addr) (n1 c1 : Nat) (a2 : Option Addr) (n2 c2 : Nat) (N : Int) (hN : N = (n1 : Int) + (n2 : Int)) (CT : Hid (∀ w', Below w.heap.size w w' → Calls Try.prog 12 #[mvals a0 n0 c0 a1 n1 c1 a2 n2 c2] w' (VTo (.int .i64 N) w'))) (bs : List B4) (hbs : Recs 4 enc4 w (.slice a2 n2 c2) bs) (j : Nat) (hj : j < bs.length) (x y z r : Int) (hb : bs[j] = ⟨⟨x, y, z⟩, r⟩) (hx : In x) (hy : In y) (hz : In z) (hr : In r) (l1 : n1 ≤ 9223372036854775807) (i : Int) (hi2 : i ≤ 9223372036854775807) (hi : i = (n1 : Int) + (j : Int)) : Calls Try.prog 22 #[mvals a0 n0 c0 a1 n1 c1 a2 n2 c2, .int .i64 i] w (VTo (boxV (ballB ⟨⟨x, y, z⟩, r⟩)) w) := by
  have hjn : j < n2 := by rw [hbs.fits]; exact hj
  have d0 : decide (i < 0) = false := decide_eq_false (by omega)
  have d1 : decide (N ≤ i) = false := decide_eq_false (by omega)
  have d2 : decide ((n1 : Int) ≤ i) = true := decide_eq_true (by omega)
  have wr : IntKind.i64.wrap (i - (n1 : Int)) = (j : Int) := by rw [wrap_in (by omega) (by omega)]; omega
  have d3 : decide ((j : Int) < (n2 : Int)) = true := decide_eq_true (by omega)
  have d4 : decide (j < n2) = true := decide_eq_true hjn
  have Q1 := Lib.hid (fun W => qs (P := Try.prog) (W := W) (fun w2 => sub_any x r hx.1 hx.2 hr.1 hr.2 w2))
  have Q2 := Lib.hid (fun W => qs (P := Try.prog) (W := W) (fun w2 => sub_any y r hy.1 hy.2 hr.1 hr.2 w2))
  have Q3 := Lib.hid (fun W => qs (P := Try.prog) (W := W) (fun w2 => sub_any z r hz.1 hz.2 hr.1 hr.2 w2))
  have Q4 := Lib.hid (fun W => qs (P := Try.prog) (W := W) (fun w2 => add_any x r hx.1 hx.2 hr.1 hr.2 w2))
  have Q5 := Lib.hid (fun W => qs (P := Try.prog) (W := W) (fun w2 => add_any y r hy.1 hy.2 hr.1 hr.2 w2))
  have Q6 := Lib.hid (fun W => qs (P := Try.prog) (W := W) (fun w2 => add_any z r hz.1 hz.2 hr.1 hr.2 w2))
  have HBS := Lib.hid hbs
  have HJ := Lib.hid hb
  clear hN hi hi2 hx hy hz hr l1 hbs hb
  unfold ballB
  dsimp only
  obtain ⟨e1, he1⟩ : ∃ e, e = subF x r := ⟨_, rfl⟩
  rw [← he1] at Q1 ⊢
  obtain ⟨e2, he2⟩ : ∃ e, e = subF y r := ⟨_, rfl⟩
  rw [← he2] at Q2 ⊢
  obtain ⟨e3, he3⟩ : ∃ e, e = subF z r := ⟨_, rfl⟩
  rw [← he3] at Q3 ⊢
  obtain ⟨e4, he4⟩ : ∃ e, e = addF x r := ⟨_, rfl⟩
  rw [← he4] at Q4 ⊢
  obtain ⟨e5, he5⟩ : ∃ e, e = addF y r := ⟨_, rfl⟩
  rw [← he5] at Q5 ⊢
  obtain ⟨e6, he6⟩ : ∃ e, e = addF z r := ⟨_, rfl⟩
  rw [← he6] at Q6 ⊢
  clear he1 he2 he3 he4 he5 he6
  obtain ⟨W, hW⟩ : ∃ W, W = W2 w a0 n0 c0 a1 n1 c1 a2 n2 c2 := ⟨_, rfl⟩
  have hB : Below w.heap.size w W := by rw [hW]; exact alloc2_below _ _ _
  have hR : W.heap[w.heap.size]? = some (.cells #[.slice a0 n0 c0, .slice a1 n1 c1, .slice a2 n2 c2] 31) := by rw [hW]; exact alloc2_0 _ _ _
  have hZ : W.heap[w.heap.size + 1]? = some (.cells #[.int .i64 0, .int .i64 0, .int .i64 0, .int .i64 0, .int .i64 0, .int .i64 0] 56) := by rw [hW]; exact alloc2_1 _ _ _
  have k0 := cell_row hR 0 (.slice a0 n0 c0) rfl
  have k1 := cell_row hR 1 (.slice a1 n1 c1) rfl
  have k2 := cell_row hR 2 (.slice a2 n2 c2) rfl
  have HR := Lib.hid hR
  have HB := Lib.hid hB
  have HZ := Lib.hid hZ
  have HWW := Lib.hid hW
  rw [hW] at k0 k1 k2
  clear hR hB hZ hW
  unfold mvals W2 at *
  go_enter Try.func22, Try.ntmps22
  go_wp2_with fail
  rw [← HWW.out]
  clear k0 k1 k2
  refine (CT.out _ HB.out).mono ?_
  rintro e w1 ⟨rfl, hb1⟩
  have HB1 := Lib.hid (HB.out.trans (hb1.mono HB.out.size))
  have HZ1 := Lib.hid (vec_step HZ.out hb1)
  have HR1 := Lib.hid (vec_step HR.out hb1)
  have HW1 := Lib.hid (HB.out.trans (hb1.mono HB.out.size))
  clear hb1 CT HB HZ HR HWW
  have k0 := cell_row HR1.out 0 (.slice a0 n0 c0) rfl
  have k1 := cell_row HR1.out 1 (.slice a1 n1 c1) rfl
  have k2 := cell_row HR1.out 2 (.slice a2 n2 c2) rfl
  obtain ⟨b, off, e, hbl, p0, p1, p2, p3⟩ := at4 (HBS.out.below HW1.out (Nat.le_refl _)) j hj
  subst e
  rw [HJ.out] at p0 p1 p2 p3
  clear HBS HJ hbl
  dsimp only at p0 p1 p2 p3
  go_upto_region 5 with (with_reducible refine store_ball rfl (.tmp 5) (.tmp 32) rfl rfl w1.heap.size x y z r rfl rfl _ (heap_alloc_new _ _) rfl ?_)
  clear k0 k1 k2 p0 p1 p2 p3
  have H5 := Lib.hid (put4_row w1 71 #[.int .i64 0, .int .i64 0, .int .i64 0, .int .i64 0] #[.int .i64 x, .int .i64 y, .int .i64 z, .int .i64 r])
  have HB5 := Lib.hid (put_ext w1 (.cells #[.int .i64 0, .int .i64 0, .int .i64 0, .int .i64 0] 71) #[.int .i64 x, .int .i64 y, .int .i64 z, .int .i64 r])
  have HB2 := Lib.hid (HB1.out.trans (HB5.out.mono HB1.out.size))
  have HZ2 := Lib.hid (vec_step HZ1.out HB5.out)
  clear HB1 HB5 HR1 HZ1 HW1
  obtain ⟨W3, hW3⟩ : ∃ W, W = (w1.alloc (.cells #[.int .i64 0, .int .i64 0, .int .i64 0, .int .i64 0] 71)).setRow w1.heap.size #[.int .i64 x, .int .i64 y, .int .i64 z, .int .i64 r] := ⟨_, rfl⟩
  rw [← hW3] at H5 HB2 HZ2 ⊢
  clear hW3
  generalize w1.heap.size = g5 at H5 ⊢
  have c0 := cell_all H5.out 0 (.int .i64 x) rfl
  have c1 := cell_all H5.out 1 (.int .i64 y) rfl
  have c2 := cell_all H5.out 2 (.int .i64 z) rfl
  have c3 := cell_all H5.out 3 (.int .i64 r) rfl
  refine wp_region_below_tail 39 (by kernel_rfl) (by kernel_rfl) ?_
  simp only [List.take_succ_cons, List.take_zero, List.drop_succ_cons, List.drop_zero]
  repeat (go_big_quiet_step (first | (with_reducible exact Q1.out _ _ _) | (with_reducible exact Q2.out _ _ _) | (with_reducible exact Q3.out _ _ _) | (with_reducible exact Q4.out _ _ _) | (with_reducible exact Q5.out _ _ _) | (with_reducible exact Q6.out _ _ _)))
  refine wpQuiet_nil ?_
  rintro _ ⟨⟨dq, osq⟩, rfl⟩
  have HZ3 := Lib.hid (heap_regrown HZ2.out dq osq)
  have HB3 := Lib.hid (HB2.out.trans ((below_regrown W3 dq osq).mono HB2.out.size))
  clear c0 c1 c2 c3 HZ2 HB2 H5
  refine store_box rfl (.tmp 4) (.tmp 71) rfl rfl (w.heap.size + 1) e1 e2 e3 e4 e5 e6 rfl rfl _ HZ3.out rfl ?_
  go_wp2_with fail
  refine bodyPost_ret (results_cell_row rfl _ _ (w.heap.size + 1) 56 _ _ _ rfl (setRow_heap _ (w.heap.size + 1) _ _ _ _ (HZ3.out)) Try.underlying56 rfl box_size) rfl ?_
  exact ⟨rfl, below_setRow HB3.out (by omega) _⟩

set_option maxRecDepth 100000 in
set_option maxHeartbeats 4000000 in
theorem box_hasnt (w : World) (a0 : Option Addr) (n0 c0 : Nat) (a1 : Option Addr) (n1 c1 : Nat) (a2 : Option Addr) (n2 c2 : Nat) (N : Int) (hN : N = (n1 : Int) + (n2 : Int)) (CT : Hid (∀ w', Below w.heap.size w w' → Calls Try.prog 12 #[mvals a0 n0 c0 a1 n1 c1 a2 n2 c2] w' (VTo (.int .i64 N) w'))) (ts : List V3) (hts : Recs 3 enc3 w (.slice a1 n1 c1) ts) (j : Nat) (hj : j < ts.length) (x y z : Int) (ht : ts[j] = ⟨x, y, z⟩) (l0 : n0 ≤ 9223372036854775807) (hh : hasF n0 ⟨x, y, z⟩ = false) : Calls Try.prog 22 #[mvals a0 n0 c0 a1 n1 c1 a2 n2 c2, .int .i64 (j : Int)] w (VTo (boxV zeroB) w) := by
  have hjn : j < n1 := by rw [hts.fits]; exact hj
  have d0 : decide ((j : Int) < 0) = false := decide_eq_false (by omega)
  have d1 : decide (N ≤ (j : Int)) = false := decide_eq_false (by omega)
  have d2 : decide ((n1 : Int) ≤ (j : Int)) = false := decide_eq_false (by omega)
  have d2' : decide (n1 ≤ j) = false := decide_eq_false (by omega)
  have d3 : decide ((j : Int) < (n1 : Int)) = true := decide_eq_true (by omega)
  have d4 : decide (j < n1) = true := decide_eq_true hjn
  have CH := Lib.hid (fun w => (hh ▸ has_any n0 l0 ⟨x, y, z⟩ w : Calls Try.prog 28 #[.int .i64 (n0 : Int), .agg #[.int .i64 x, .int .i64 y, .int .i64 z]] w (VTo (.bool false) w)))
  have HTS := Lib.hid hts
  have HJ := Lib.hid ht
  clear hN hts ht hh l0
  obtain ⟨W, hW⟩ : ∃ W, W = W2 w a0 n0 c0 a1 n1 c1 a2 n2 c2 := ⟨_, rfl⟩
  have hB : Below w.heap.size w W := by rw [hW]; exact alloc2_below _ _ _
  have hR : W.heap[w.heap.size]? = some (.cells #[.slice a0 n0 c0, .slice a1 n1 c1, .slice a2 n2 c2] 31) := by rw [hW]; exact alloc2_0 _ _ _
  have hZ : W.heap[w.heap.size + 1]? = some (.cells #[.int .i64 0, .int .i64 0, .int .i64 0, .int .i64 0, .int .i64 0, .int .i64 0] 56) := by rw [hW]; exact alloc2_1 _ _ _
  have k0 := cell_row hR 0 (.slice a0 n0 c0) rfl
  have k1 := cell_row hR 1 (.slice a1 n1 c1) rfl
  have k2 := cell_row hR 2 (.slice a2 n2 c2) rfl
  have HR := Lib.hid hR
  have HB := Lib.hid hB
  have HZ := Lib.hid hZ
  have HWW := Lib.hid hW
  rw [hW] at k0 k1 k2
  clear hR hB hZ hW
  unfold mvals W2 at *
  go_enter Try.func22, Try.ntmps22
  go_wp2_with fail
  rw [← HWW.out]
  clear k0 k1 k2
  refine (CT.out _ HB.out).mono ?_
  rintro e w1 ⟨rfl, hb1⟩
  have HB1 := Lib.hid (HB.out.trans (hb1.mono HB.out.size))
  have HZ1 := Lib.hid (vec_step HZ.out hb1)
  have HR1 := Lib.hid (vec_step HR.out hb1)
  have HW1 := Lib.hid (HB.out.trans (hb1.mono HB.out.size))
  clear hb1 CT HB HZ HR HWW
  have k0 := cell_row HR1.out 0 (.slice a0 n0 c0) rfl
  have k1 := cell_row HR1.out 1 (.slice a1 n1 c1) rfl
  have k2 := cell_row HR1.out 2 (.slice a2 n2 c2) rfl
  obtain ⟨b, off, e, hbl, p0, p1, p2⟩ := at3 (HTS.out.below HW1.out (Nat.le_refl _)) j hj
  subst e
  rw [HJ.out] at p0 p1 p2
  clear HTS HJ hbl
  dsimp only at p0 p1 p2
  go_upto_region 7 with (with_reducible refine store_tri rfl (.tmp 6) (.tmp 76) rfl rfl w1.heap.size x y z rfl rfl _ (heap_alloc_new _ _) rfl ?_)
  clear k0 k1 k2 p0 p1 p2
  have H6 := Lib.hid (put4_row w1 68 #[.int .i64 0, .int .i64 0, .int .i64 0] #[.int .i64 x, .int .i64 y, .int .i64 z])
  have HB6 := Lib.hid (put_ext w1 (.cells #[.int .i64 0, .int .i64 0, .int .i64 0] 68) #[.int .i64 x, .int .i64 y, .int .i64 z])
  have HB2 := Lib.hid (HB1.out.trans (HB6.out.mono HB1.out.size))
  have HZ2 := Lib.hid (vec_step HZ1.out HB6.out)
  have HR2 := Lib.hid (vec_step HR1.out HB6.out)
  clear HB1 HB6 HR1 HZ1 HW1
  obtain ⟨W3, hW3⟩ : ∃ W, W = (w1.alloc (.cells #[.int .i64 0, .int .i64 0, .int .i64 0] 68)).setRow w1.heap.size #[.int .i64 x, .int .i64 y, .int .i64 z] := ⟨_, rfl⟩
  rw [← hW3] at H6 HB2 HZ2 HR2 ⊢
  clear hW3
  generalize w1.heap.size = g6 at H6 ⊢
  obtain ⟨c0', c1', c2'⟩ := cells_now H6.out
  have k0 := cell_row HR2.out 0 (.slice a0 n0 c0) rfl
  go_wp2_with fail
  refine (CH.out _).mono ?_
  rintro e w4 ⟨rfl, hb4⟩
  have HB4 := Lib.hid (HB2.out.trans (hb4.mono HB2.out.size))
  have HZ4 := Lib.hid (vec_step HZ2.out hb4)
  clear hb4 c0' c1' c2' k0 HB2 HZ2
  go_wp2_with (with_reducible refine store_box rfl (.tmp 4) (.tmp 83) rfl rfl (w.heap.size + 1) 0 0 0 0 0 0 rfl rfl _ HZ4.out rfl ?_)
  refine bodyPost_ret (results_cell_row rfl _ _ (w.heap.size + 1) 56 _ _ _ rfl (setRow_heap _ (w.heap.size + 1) _ _ _ _ (HZ4.out)) Try.underlying56 rfl box_size) rfl ?_
  exact ⟨rfl, below_setRow HB4.out (by omega) _⟩

set_option maxRecDepth 100000 in
set_option maxHeartbeats 4000000 in
theorem box_tri (w : World) (a0 : Option Addr) (n0 c0 : Nat) (a1 : Option Addr) (n1 c1 : Nat) (a2 : Option Addr) (n2 c2 : Nat) (N : Int) (hN : N = (n1 : Int) + (n2 : Int)) (CT : Hid (∀ w', Below w.heap.size w w' → Calls Try.prog 12 #[mvals a0 n0 c0 a1 n1 c1 a2 n2 c2] w' (VTo (.int .i64 N) w'))) (ts ps : List V3) (hts : Recs 3 enc3 w (.slice a1 n1 c1) ts) (hps : Recs 3 enc3 w (.slice a0 n0 c0) ps) (j : Nat) (hj : j < ts.length) (x y z : Nat) (ht : ts[j] = ⟨(x : Int), (y : Int), (z : Int)⟩) (hx : x < ps.length) (hy : y < ps.length) (hz : z < ps.length) (l0 : n0 ≤ 9223372036854775807) (hh : hasF n0 ⟨(x : Int), (y : Int), (z : Int)⟩ = true) : Calls Try.prog 22 #[mvals a0 n0 c0 a1 n1 c1 a2 n2 c2, .int .i64 (j : Int)] w (VTo (boxV (triB ps[x] ps[y] ps[z])) w) := by
  have hjn : j < n1 := by rw [hts.fits]; exact hj
  have hxn : x < n0 := by rw [hps.fits]; exact hx
  have hyn : y < n0 := by rw [hps.fits]; exact hy
  have hzn : z < n0 := by rw [hps.fits]; exact hz
  have d0 : decide ((j : Int) < 0) = false := decide_eq_false (by omega)
  have d1 : decide (N ≤ (j : Int)) = false := decide_eq_false (by omega)
  have d2 : decide ((n1 : Int) ≤ (j : Int)) = false := decide_eq_false (by omega)
  have d2' : decide (n1 ≤ j) = false := decide_eq_false (by omega)
  have d3 : decide ((j : Int) < (n1 : Int)) = true := decide_eq_true (by omega)
  have d4 : decide (j < n1) = true := decide_eq_true hjn
  have CH := Lib.hid (fun w => (hh ▸ has_any n0 l0 ⟨(x : Int), (y : Int), (z : Int)⟩ w : Calls Try.prog 28 #[.int .i64 (n0 : Int), .agg #[.int .i64 (x : Int), .int .i64 (y : Int), .int .i64 (z : Int)]] w (VTo (.bool true) w)))
  have HTS := Lib.hid hts
  have HPS := Lib.hid hps
  have HJ := Lib.hid ht
  have DX := Lib.hid hxn
  have DY := Lib.hid hyn
  have DZ := Lib.hid hzn
  clear hN hts hps ht hh l0 hxn hyn hzn
  obtain ⟨⟨pax, pay, paz⟩, hppa⟩ : ∃ p, p = ps[x] := ⟨_, rfl⟩
  rw [← hppa]
  have HPpa := Lib.hid hppa
  clear hppa
  obtain ⟨⟨pbx, pby, pbz⟩, hppb⟩ : ∃ p, p = ps[y] := ⟨_, rfl⟩
  rw [← hppb]
  have HPpb := Lib.hid hppb
  clear hppb
  obtain ⟨⟨pcx, pcy, pcz⟩, hppc⟩ : ∃ p, p = ps[z] := ⟨_, rfl⟩
  rw [← hppc]
  have HPpc := Lib.hid hppc
  clear hppc
  unfold triB
  dsimp only
  obtain ⟨lx, hlx⟩ : ∃ e, e = min3 pax pbx pcx := ⟨_, rfl⟩
  have Mlx := min_at hlx
  rw [← hlx]
  clear hlx
  obtain ⟨ly, hly⟩ : ∃ e, e = min3 pay pby pcy := ⟨_, rfl⟩
  have Mly := min_at hly
  rw [← hly]
  clear hly
  obtain ⟨lz, hlz⟩ : ∃ e, e = min3 paz pbz pcz := ⟨_, rfl⟩
  have Mlz := min_at hlz
  rw [← hlz]
  clear hlz
  obtain ⟨ux, hux⟩ : ∃ e, e = max3 pax pbx pcx := ⟨_, rfl⟩
  have Mux := max_at hux
  rw [← hux]
  clear hux
  obtain ⟨uy, huy⟩ : ∃ e, e = max3 pay pby pcy := ⟨_, rfl⟩
  have Muy := max_at huy
  rw [← huy]
  clear huy
  obtain ⟨uz, huz⟩ : ∃ e, e = max3 paz pbz pcz := ⟨_, rfl⟩
  have Muz := max_at huz
  rw [← huz]
  clear huz
  obtain ⟨W, hW⟩ : ∃ W, W = W2 w a0 n0 c0 a1 n1 c1 a2 n2 c2 := ⟨_, rfl⟩
  have hB : Below w.heap.size w W := by rw [hW]; exact alloc2_below _ _ _
  have hR : W.heap[w.heap.size]? = some (.cells #[.slice a0 n0 c0, .slice a1 n1 c1, .slice a2 n2 c2] 31) := by rw [hW]; exact alloc2_0 _ _ _
  have hZ : W.heap[w.heap.size + 1]? = some (.cells #[.int .i64 0, .int .i64 0, .int .i64 0, .int .i64 0, .int .i64 0, .int .i64 0] 56) := by rw [hW]; exact alloc2_1 _ _ _
  have k0 := cell_row hR 0 (.slice a0 n0 c0) rfl
  have k1 := cell_row hR 1 (.slice a1 n1 c1) rfl
  have k2 := cell_row hR 2 (.slice a2 n2 c2) rfl
  have HR := Lib.hid hR
  have HB := Lib.hid hB
  have HZ := Lib.hid hZ
  have HWW := Lib.hid hW
  rw [hW] at k0 k1 k2
  clear hR hB hZ hW
  unfold mvals W2 at *
  go_enter Try.func22, Try.ntmps22
  go_wp2_with fail
  rw [← HWW.out]
  clear k0 k1 k2
  refine (CT.out _ HB.out).mono ?_
  rintro e w1 ⟨rfl, hb1⟩
  have HB1 := Lib.hid (HB.out.trans (hb1.mono HB.out.size))
  have HZ1 := Lib.hid (vec_step HZ.out hb1)
  have HR1 := Lib.hid (vec_step HR.out hb1)
  have HW1 := Lib.hid (HB.out.trans (hb1.mono HB.out.size))
  clear hb1 CT HB HZ HR HWW
  have k0 := cell_row HR1.out 0 (.slice a0 n0 c0) rfl
  have k1 := cell_row HR1.out 1 (.slice a1 n1 c1) rfl
  have k2 := cell_row HR1.out 2 (.slice a2 n2 c2) rfl
  obtain ⟨b, off, e, hbl, p0, p1, p2⟩ := at3 (HTS.out.below HW1.out (Nat.le_refl _)) j hj
  subst e
  rw [HJ.out] at p0 p1 p2
  clear HTS HJ hbl
  dsimp only at p0 p1 p2
  go_upto_region 7 with (with_reducible refine store_tri rfl (.tmp 6) (.tmp 76) rfl rfl w1.heap.size x y z rfl rfl _ (heap_alloc_new _ _) rfl ?_)
  clear k0 k1 k2 p0 p1 p2
  have H6 := Lib.hid (put4_row w1 68 #[.int .i64 0, .int .i64 0, .int .i64 0] #[.int .i64 x, .int .i64 y, .int .i64 z])
  have HB6 := Lib.hid (put_ext w1 (.cells #[.int .i64 0, .int .i64 0, .int .i64 0] 68) #[.int .i64 x, .int .i64 y, .int .i64 z])
  have HB2 := Lib.hid (HB1.out.trans (HB6.out.mono HB1.out.size))
  have HZ2 := Lib.hid (vec_step HZ1.out HB6.out)
  have HR2 := Lib.hid (vec_step HR1.out HB6.out)
  clear HB1 HB6 HR1 HZ1 HW1
  obtain ⟨W3, hW3⟩ : ∃ W, W = (w1.alloc (.cells #[.int .i64 0, .int .i64 0, .int .i64 0] 68)).setRow w1.heap.size #[.int .i64 x, .int .i64 y, .int .i64 z] := ⟨_, rfl⟩
  rw [← hW3] at H6 HB2 HZ2 HR2 ⊢
  clear hW3
  generalize w1.heap.size = g6 at H6 ⊢
  obtain ⟨c0', c1', c2'⟩ := cells_now H6.out
  have k0 := cell_row HR2.out 0 (.slice a0 n0 c0) rfl
  go_wp2_with fail
  refine (CH.out _).mono ?_
  rintro e w4 ⟨rfl, hb4⟩
  have HB4 := Lib.hid (HB2.out.trans (hb4.mono HB2.out.size))
  have HZ4 := Lib.hid (vec_step HZ2.out hb4)
  have HR4 := Lib.hid (vec_step HR2.out hb4)
  have HT4 := Lib.hid (vec_step H6.out hb4)
  have HP4 := Lib.hid (HPS.out.below HB4.out (Nat.le_refl _))
  clear hb4 c0' c1' c2' k0 HB2 HZ2 HR2 H6 HPS
  go_upto_region 9 with (fail)
  have K0 := Lib.hid (fun W9 (hb : Below w4.heap.size w4 W9) => cell_all (vec_step HR4.out hb) 0 _ rfl)
  have KT := Lib.hid (fun W9 (hb : Below w4.heap.size w4 W9) => cells3 (vec_step HT4.out hb))
  have hps4 := HP4.out
  obtain ⟨b4, off4, e4, hb4', _, _, _⟩ := at3 hps4 x hx
  subst e4
  have HPS4 := Lib.hid hps4
  clear hps4 hb4'
  have Kpa : Hid (∀ W9, Below w4.heap.size w4 W9 → (∀ d os, (grow (redrawn W9 d) os).cell? ⟨b4, off4 + x * 3, none⟩ = some (.int .i64 pax)) ∧ (∀ d os, (grow (redrawn W9 d) os).cell? ⟨b4, off4 + x * 3 + 1, none⟩ = some (.int .i64 pay)) ∧ (∀ d os, (grow (redrawn W9 d) os).cell? ⟨b4, off4 + x * 3 + 2, none⟩ = some (.int .i64 paz))) := by
    refine Lib.hid (fun W9 hb => ?_)
    obtain ⟨b5, off5, e5, _, q0, q1, q2⟩ := at3 (HPS4.out.below hb (Nat.le_refl _)) x hx
    simp only [Option.some.injEq, Addr.mk.injEq, and_true] at e5
    obtain ⟨rfl, rfl⟩ := e5
    rw [← HPpa.out] at q0 q1 q2
    exact ⟨fun d os => cell_regrown q0 d os, fun d os => cell_regrown q1 d os, fun d os => cell_regrown q2 d os⟩
  have Kpb : Hid (∀ W9, Below w4.heap.size w4 W9 → (∀ d os, (grow (redrawn W9 d) os).cell? ⟨b4, off4 + y * 3, none⟩ = some (.int .i64 pbx)) ∧ (∀ d os, (grow (redrawn W9 d) os).cell? ⟨b4, off4 + y * 3 + 1, none⟩ = some (.int .i64 pby)) ∧ (∀ d os, (grow (redrawn W9 d) os).cell? ⟨b4, off4 + y * 3 + 2, none⟩ = some (.int .i64 pbz))) := by
    refine Lib.hid (fun W9 hb => ?_)
    obtain ⟨b5, off5, e5, _, q0, q1, q2⟩ := at3 (HPS4.out.below hb (Nat.le_refl _)) y hy
    simp only [Option.some.injEq, Addr.mk.injEq, and_true] at e5
    obtain ⟨rfl, rfl⟩ := e5
    rw [← HPpb.out] at q0 q1 q2
    exact ⟨fun d os => cell_regrown q0 d os, fun d os => cell_regrown q1 d os, fun d os => cell_regrown q2 d os⟩
  have Kpc : Hid (∀ W9, Below w4.heap.size w4 W9 → (∀ d os, (grow (redrawn W9 d) os).cell? ⟨b4, off4 + z * 3, none⟩ = some (.int .i64 pcx)) ∧ (∀ d os, (grow (redrawn W9 d) os).cell? ⟨b4, off4 + z * 3 + 1, none⟩ = some (.int .i64 pcy)) ∧ (∀ d os, (grow (redrawn W9 d) os).cell? ⟨b4, off4 + z * 3 + 2, none⟩ = some (.int .i64 pcz))) := by
    refine Lib.hid (fun W9 hb => ?_)
    obtain ⟨b5, off5, e5, _, q0, q1, q2⟩ := at3 (HPS4.out.below hb (Nat.le_refl _)) z hz
    simp only [Option.some.injEq, Addr.mk.injEq, and_true] at e5
    obtain ⟨rfl, rfl⟩ := e5
    rw [← HPpc.out] at q0 q1 q2
    exact ⟨fun d os => cell_regrown q0 d os, fun d os => cell_regrown q1 d os, fun d os => cell_regrown q2 d os⟩
  clear HPS4 HPpa HPpb HPpc
  have HRR := Lib.hid (HR4.out)
  refine wp_region_free 147 [0, 1, 2, 3, 4, 5, 6, 7, 8, 9, 10, 11, 12, 13, 14, 15, 16, 17] [⟨18, 7, #[.int .i64 0, .int .i64 0, .int .i64 0], 23, 21, 89, #[.int .i64 pax, .int .i64 pay, .int .i64 paz]⟩, ⟨19, 8, #[.int .i64 0, .int .i64 0, .int .i64 0], 23, 22, 95, #[.int .i64 pbx, .int .i64 pby, .int .i64 pbz]⟩, ⟨20, 9, #[.int .i64 0, .int .i64 0, .int .i64 0], 23, 23, 101, #[.int .i64 pcx, .int .i64 pcy, .int .i64 pcz]⟩] (by kernel_rfl) rfl (by kernel_rfl) (by
    intro x hx
    simp only [List.mem_cons, List.not_mem_nil, or_false] at hx
    rcases hx with rfl | rfl | rfl
    · exact ⟨⟨_, rfl, ⟨⟨_, rfl, alloc_vec⟩, rfl, rfl⟩⟩, _, rfl, ⟨⟨_, rfl, vec_size⟩, rfl, rfl, rfl, row_one _ _ _⟩⟩
    · exact ⟨⟨_, rfl, ⟨⟨_, rfl, alloc_vec⟩, rfl, rfl⟩⟩, _, rfl, ⟨⟨_, rfl, vec_size⟩, rfl, rfl, rfl, row_one _ _ _⟩⟩
    · exact ⟨⟨_, rfl, ⟨⟨_, rfl, alloc_vec⟩, rfl, rfl⟩⟩, _, rfl, ⟨⟨_, rfl, vec_size⟩, rfl, rfl, rfl, row_one _ _ _⟩⟩) ?_
  refine Walk.step (A := ?A0) (o := ?o0) ?e0 ?w0 84 ?d0 (by simp) ?h0 ?n0
  case e0 => simp only [List.getElem?_toArray, List.getElem?_cons_succ, List.getElem?_cons_zero]; exact rfl
  case w0 => exact rfl
  case d0 => exact rfl
  case h0 =>
    intro W9 hW9
    go_big_quiet_op
    exact rfl
  refine Walk.step (A := ?A1) (o := ?o1) ?e1 ?w1 85 ?d1 (by simp) ?h1 ?n1
  case e1 => simp only [List.getElem?_toArray, List.getElem?_cons_succ, List.getElem?_cons_zero]; exact rfl
  case w1 => exact rfl
  case d1 => exact rfl
  case h1 =>
    intro W9 hW9
    have z0 := K0.out W9 hW9
    go_big_quiet_op
    exact rfl
  refine Walk.step (A := ?A2) (o := ?o2) ?e2 ?w2 86 ?d2 (by simp) ?h2 ?n2
  case e2 => simp only [List.getElem?_toArray, List.getElem?_cons_succ, List.getElem?_cons_zero]; exact rfl
  case w2 => exact rfl
  case d2 => exact rfl
  case h2 =>
    intro W9 hW9
    go_big_quiet_op
    exact rfl
  refine Walk.step (A := ?A3) (o := ?o3) ?e3 ?w3 87 ?d3 (by simp) ?h3 ?n3
  case e3 => simp only [List.getElem?_toArray, List.getElem?_cons_succ, List.getElem?_cons_zero]; exact rfl
  case w3 => exact rfl
  case d3 => exact rfl
  case h3 =>
    intro W9 hW9
    obtain ⟨z0, z1, z2⟩ := KT.out W9 hW9
    go_big_quiet_op
    exact rfl
  refine Walk.step (A := ?A4) (o := ?o4) ?e4 ?w4 88 ?d4 (by simp) ?h4 ?n4
  case e4 => simp only [List.getElem?_toArray, List.getElem?_cons_succ, List.getElem?_cons_zero]; exact rfl
  case w4 => exact rfl
  case d4 => exact rfl
  case h4 =>
    intro W9 hW9
    have z0 := DX.out
    go_big_quiet_op
    exact rfl
  refine Walk.step (A := ?A5) (o := ?o5) ?e5 ?w5 89 ?d5 (by simp) ?h5 ?n5
  case e5 => simp only [List.getElem?_toArray, List.getElem?_cons_succ, List.getElem?_cons_zero]; exact rfl
  case w5 => exact rfl
  case d5 => exact rfl
  case h5 =>
    intro W9 hW9
    obtain ⟨z0, z1, z2⟩ := Kpa.out W9 hW9
    go_big_quiet_op
    exact rfl
  refine Walk.step (A := ?A6) (o := ?o6) ?e6 ?w6 90 ?d6 (by simp) ?h6 ?n6
  case e6 => simp only [List.getElem?_toArray, List.getElem?_cons_succ, List.getElem?_cons_zero]; exact rfl
  case w6 => exact rfl
  case d6 => exact rfl
  case h6 =>
    intro W9 hW9
    go_big_quiet_op
    exact rfl
  refine Walk.step (A := ?A7) (o := ?o7) ?e7 ?w7 91 ?d7 (by simp) ?h7 ?n7
  case e7 => simp only [List.getElem?_toArray, List.getElem?_cons_succ, List.getElem?_cons_zero]; exact rfl
  case w7 => exact rfl
  case d7 => exact rfl
  case h7 =>
    intro W9 hW9
    have z0 := K0.out W9 hW9
    go_big_quiet_op
    exact rfl
  refine Walk.step (A := ?A8) (o := ?o8) ?e8 ?w8 92 ?d8 (by simp) ?h8 ?n8
  case e8 => simp only [List.getElem?_toArray, List.getElem?_cons_succ, List.getElem?_cons_zero]; exact rfl
  case w8 => exact rfl
  case d8 => exact rfl
  case h8 =>
    intro W9 hW9
    go_big_quiet_op
    exact rfl
  refine Walk.step (A := ?A9) (o := ?o9) ?e9 ?w9 93 ?d9 (by simp) ?h9 ?n9
  case e9 => simp only [List.getElem?_toArray, List.getElem?_cons_succ, List.getElem?_cons_zero]; exact rfl
  case w9 => exact rfl
  case d9 => exact rfl
  case h9 =>
    intro W9 hW9
    obtain ⟨z0, z1, z2⟩ := KT.out W9 hW9
    go_big_quiet_op
    exact rfl
  refine Walk.step (A := ?A10) (o := ?o10) ?e10 ?w10 94 ?d10 (by simp) ?h10 ?n10
  case e10 => simp only [List.getElem?_toArray, List.getElem?_cons_succ, List.getElem?_cons_zero]; exact rfl
  case w10 => exact rfl
  case d10 => exact rfl
  case h10 =>
    intro W9 hW9
    have z0 := DY.out
    go_big_quiet_op
    exact rfl
  refine Walk.step (A := ?A11) (o := ?o11) ?e11 ?w11 95 ?d11 (by simp) ?h11 ?n11
  case e11 => simp only [List.getElem?_toArray, List.getElem?_cons_succ, List.getElem?_cons_zero]; exact rfl
  case w11 => exact rfl
  case d11 => exact rfl
  case h11 =>
    intro W9 hW9
    obtain ⟨z0, z1, z2⟩ := Kpb.out W9 hW9
    go_big_quiet_op
    exact rfl
  refine Walk.step (A := ?A12) (o := ?o12) ?e12 ?w12 96 ?d12 (by simp) ?h12 ?n12
  case e12 => simp only [List.getElem?_toArray, List.getElem?_cons_succ, List.getElem?_cons_zero]; exact rfl
  case w12 => exact rfl
  case d12 => exact rfl
  case h12 =>
    intro W9 hW9
    go_big_quiet_op
    exact rfl
  refine Walk.step (A := ?A13) (o := ?o13) ?e13 ?w13 97 ?d13 (by simp) ?h13 ?n13
  case e13 => simp only [List.getElem?_toArray, List.getElem?_cons_succ, List.getElem?_cons_zero]; exact rfl
  case w13 => exact rfl
  case d13 => exact rfl
  case h13 =>
    intro W9 hW9
    have z0 := K0.out W9 hW9
    go_big_quiet_op
    exact rfl
  refine Walk.step (A := ?A14) (o := ?o14) ?e14 ?w14 98 ?d14 (by simp) ?h14 ?n14
  case e14 => simp only [List.getElem?_toArray, List.getElem?_cons_succ, List.getElem?_cons_zero]; exact rfl
  case w14 => exact rfl
  case d14 => exact rfl
  case h14 =>
    intro W9 hW9
    go_big_quiet_op
    exact rfl
  refine Walk.step (A := ?A15) (o := ?o15) ?e15 ?w15 99 ?d15 (by simp) ?h15 ?n15
  case e15 => simp only [List.getElem?_toArray, List.getElem?_cons_succ, List.getElem?_cons_zero]; exact rfl
  case w15 => exact rfl
  case d15 => exact rfl
  case h15 =>
    intro W9 hW9
    obtain ⟨z0, z1, z2⟩ := KT.out W9 hW9
    go_big_quiet_op
    exact rfl
  refine Walk.step (A := ?A16) (o := ?o16) ?e16 ?w16 100 ?d16 (by simp) ?h16 ?n16
  case e16 => simp only [List.getElem?_toArray, List.getElem?_cons_succ, List.getElem?_cons_zero]; exact rfl
  case w16 => exact rfl
  case d16 => exact rfl
  case h16 =>
    intro W9 hW9
    have z0 := DZ.out
    go_big_quiet_op
    exact rfl
  refine Walk.step (A := ?A17) (o := ?o17) ?e17 ?w17 101 ?d17 (by simp) ?h17 ?n17
  case e17 => simp only [List.getElem?_toArray, List.getElem?_cons_succ, List.getElem?_cons_zero]; exact rfl
  case w17 => exact rfl
  case d17 => exact rfl
  case h17 =>
    intro W9 hW9
    obtain ⟨z0, z1, z2⟩ := Kpc.out W9 hW9
    go_big_quiet_op
    exact rfl
  refine ⟨?_, ?_⟩
  · intro x hx
    simp only [List.mem_cons, List.not_mem_nil, or_false] at hx
    rcases hx with rfl | rfl | rfl <;> rfl
  intro G hG hne w5 hD5 hk
  have k7 := hk _ (List.mem_cons_self ..)
  have k8 := hk _ (List.mem_cons_of_mem _ (List.mem_cons_self ..))
  have k9 := hk _ (List.mem_cons_of_mem _ (List.mem_cons_of_mem _ (List.mem_cons_self ..)))
  dsimp only at k7 k8 k9
  simp only [lay, Act.put, List.setIfInBounds_toArray, List.set_cons_succ, List.set_cons_zero, ptr]
  generalize G 18 = g7 at k7 ⊢
  generalize G 19 = g8 at k8 ⊢
  generalize G 20 = g9 at k9 ⊢
  obtain ⟨u0, u1, u2⟩ := cells_now k7
  obtain ⟨u3, u4, u5⟩ := cells_now k8
  obtain ⟨u6, u7, u8⟩ := cells_now k9
  have HB9 := Lib.hid (HB4.out.trans (hD5.mono HB4.out.size))
  have HZ9 := Lib.hid (vec_step HZ4.out hD5)
  clear hG hne hD5 hk k7 k8 k9 K0 KT Kpa Kpb Kpc HRR HB4 HZ4 HR4 HT4 HP4 DX DY DZ
  go_wp2_with (with_reducible refine store_box rfl (.tmp 4) (.tmp 146) rfl rfl (w.heap.size + 1) lx ly lz ux uy uz rfl rfl _ HZ9.out rfl ?_)
  refine bodyPost_ret (results_cell_row rfl _ _ (w.heap.size + 1) 56 _ _ _ rfl (setRow_heap _ (w.heap.size + 1) _ _ _ _ (HZ9.out)) Try.underlying56 rfl box_size) rfl ?_
  exact ⟨rfl, below_setRow HB9.out (by omega) _⟩

theorem box_any (v : Value) (m : Msh) (w : World) (hm : IsMesh w v m) (ok : m.ok) (hl : m.ts.length + m.bs.length ≤ 9223372036854775807) (i : Int) (hi : In i) : Calls Try.prog 22 #[v, .int .i64 i] w (VTo (boxV (boxF m i)) w) := by
  have hm0 := hm
  obtain ⟨a0, c0, a1, c1, a2, c2, rfl, h0, h1, h2, l0, l1, l2⟩ := hm.open_
  have CT : Hid (∀ w', Below w.heap.size w w' → Calls Try.prog 12 #[mvals a0 m.ps.length c0 a1 m.ts.length c1 a2 m.bs.length c2] w' (VTo (.int .i64 ((m.ts.length : Int) + (m.bs.length : Int))) w')) := Lib.hid (fun w' hb => by
    have := count_any _ m w' (hm0.below hb) hl
    rwa [show ((m.ts.length + m.bs.length : Nat) : Int) = (m.ts.length : Int) + (m.bs.length : Int) from by simp] at this)
  unfold boxF
  by_cases hi0 : i < 0
  · rw [if_pos (.inl hi0)]
    exact box_neg w _ _ _ _ _ _ _ _ _ i hi0
  by_cases hi1 : (m.ts.length : Int) + (m.bs.length : Int) ≤ i
  · rw [if_pos (.inr hi1)]
    exact box_far w _ _ _ _ _ _ _ _ _ _ rfl CT i (by omega) hi1
  rw [if_neg (by omega)]
  by_cases hi2 : i < (m.ts.length : Int)
  · rw [if_pos hi2]
    obtain ⟨j, rfl⟩ := Int.eq_ofNat_of_zero_le (by omega : 0 ≤ i)
    have hj : j < m.ts.length := by omega
    have e1 : m.ts.getD (j : Int).toNat v0 = m.ts[j] := by simp [hj]
    rw [e1]
    unfold triF
    obtain ⟨⟨x, y, z⟩, ht⟩ : ∃ t, t = m.ts[j] := ⟨_, rfl⟩
    rw [← ht]
    cases hh : hasF m.ps.length ⟨x, y, z⟩
    · simp only [Bool.false_eq_true, if_false]
      exact box_hasnt w _ _ _ _ _ _ _ _ _ _ rfl CT m.ts h1 j hj x y z ht.symm l0 hh
    · simp only [if_true]
      have hx := hh
      simp only [hasF, placeI, Bool.and_eq_true, decide_eq_true_eq] at hx
      obtain ⟨⟨⟨x0, x1⟩, y0, y1⟩, z0, z1⟩ := hx
      obtain ⟨x, rfl⟩ := Int.eq_ofNat_of_zero_le x0
      obtain ⟨y, rfl⟩ := Int.eq_ofNat_of_zero_le y0
      obtain ⟨z, rfl⟩ := Int.eq_ofNat_of_zero_le z0
      have hx : x < m.ps.length := by omega
      have hy : y < m.ps.length := by omega
      have hz : z < m.ps.length := by omega
      have := box_tri w _ _ _ _ _ _ _ _ _ _ rfl CT m.ts m.ps h1 h0 j hj x y z ht.symm hx hy hz l0 hh
      simpa [ptF, hx, hy, hz] using this
  · rw [if_neg hi2]
    obtain ⟨j, hj⟩ : ∃ j : Nat, (j : Int) = i - (m.ts.length : Int) := ⟨(i - (m.ts.length : Int)).toNat, by omega⟩
    have hjb : j < m.bs.length := by omega
    have e1 : m.bs.getD (i - (m.ts.length : Int)).toNat ⟨v0, 0⟩ = m.bs[j] := by rw [← hj]; simp [hjb]
    rw [e1]
    have hok := ok.bs m.bs[j] (List.getElem_mem hjb)
    obtain ⟨⟨⟨x, y, z⟩, r⟩, hb⟩ : ∃ t, t = m.bs[j] := ⟨_, rfl⟩
    rw [← hb] at hok ⊢
    exact box_ball w _ _ _ _ _ _ _ _ _ _ rfl CT m.bs h2 j hjb x y z r hb.symm hok.1.1 hok.1.2.1 hok.1.2.2 hok.2 l1 i hi.2 (by omega)
end Go.Proofs.Ytdaokkgenfpmhaa.MeshP
