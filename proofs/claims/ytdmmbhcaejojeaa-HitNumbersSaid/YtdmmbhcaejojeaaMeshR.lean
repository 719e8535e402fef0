/- The walk of ref12 Box. -/
import Derived.Test.YtdmmbhcaejojeaaMeshQ
set_option linter.unusedVariables false
set_option linter.unusedSimpArgs false
namespace Go.Proofs.Ytdmmbhcaejojeaa.MeshR
open Go.RowKit Go.Sort FixM Base Num FixW Qb Qt Qa Qf VecW VecV VecU LightQ LightC MeshM Rec MeshA MeshB MeshC MeshD MeshE MeshP MeshQ
theorem ref_sub (a b : Int) (ha1 : -9223372036854775808 ≤ a) (ha2 : a ≤ 9223372036854775807) (hb1 : -9223372036854775808 ≤ b) (hb2 : b ≤ 9223372036854775807) (w : World) : Calls Try.prog 46 #[.int .i64 a, .int .i64 b] w (fun e w' => e = .returned (.int .i64 (subF a b)) ∧ w = w') := rsub_any a b ha1 ha2 hb1 hb2 w
theorem ref_add (a b : Int) (ha1 : -9223372036854775808 ≤ a) (ha2 : a ≤ 9223372036854775807) (hb1 : -9223372036854775808 ≤ b) (hb2 : b ≤ 9223372036854775807) (w : World) : Calls Try.prog 50 #[.int .i64 a, .int .i64 b] w (fun e w' => e = .returned (.int .i64 (addF a b)) ∧ w = w') := radd_any a b ha1 ha2 hb1 hb2 w
theorem tri_of (a b c : V3) : triB a b c = ⟨lowV a (lowV b c), highV a (highV b c)⟩ := by
  unfold triB lowV highV min3 max3
  simp only [Bx.mk.injEq, V3.mk.injEq]
  refine ⟨⟨?_, ?_, ?_⟩, ?_, ?_, ?_⟩ <;> (repeat' split) <;> omega

set_option maxRecDepth 100000 in
set_option maxHeartbeats 4000000 in
theorem rbox_neg (w : World) (a0 : Option Addr) (n0 c0 : Nat) (a1 : Option Addr) (n1 c1 : Nat) (a2 : Option Addr) (n2 c2 : Nat) (i : Int) (h : i < 0) : Calls Try.prog 55 #[mvals a0 n0 c0 a1 n1 c1 a2 n2 c2, .int .i64 i] w (VTo (boxV zeroB) w) := by
  have d0 : decide (i < 0) = true := decide_eq_true h
  clear h
  obtain ⟨W, hW⟩ : ∃ W, W = W2 w a0 n0 c0 a1 n1 c1 a2 n2 c2 := ⟨_, rfl⟩
  have hB : Below w.heap.size w W := by rw [hW]; exact alloc2_below _ _ _
  have hR : W.heap[w.heap.size]? = some (.cells #[.slice a0 n0 c0, .slice a1 n1 c1, .slice a2 n2 c2] 44) := by rw [hW]; exact alloc2_0 _ _ _
  have hZ : W.heap[w.heap.size + 1]? = some (.cells #[.int .i64 0, .int .i64 0, .int .i64 0, .int .i64 0, .int .i64 0, .int .i64 0] 29) := by rw [hW]; exact alloc2_1 _ _ _
  have k0 := cell_row hR 0 (.slice a0 n0 c0) rfl
  have k1 := cell_row hR 1 (.slice a1 n1 c1) rfl
  have k2 := cell_row hR 2 (.slice a2 n2 c2) rfl
  have HR := Lib.hid hR
  have HB := Lib.hid hB
  have HZ := Lib.hid hZ
  have HWW := Lib.hid hW
  rw [hW] at k0 k1 k2
  clear hR hB hZ hW
  unfold mvals W2 at *
  clear HR HB HZ HWW
  go_enter Try.func55, Try.ntmps55
  go_wp2_with (with_reducible refine store_box rfl (.tmp 4) (.tmp 20) rfl rfl (w.heap.size + 1) 0 0 0 0 0 0 rfl rfl _ (alloc2_1 _ _ _) rfl ?_)
  refine bodyPost_ret (results_cell_row rfl _ _ (w.heap.size + 1) 29 _ _ _ rfl (setRow_heap _ (w.heap.size + 1) _ _ _ _ (alloc2_1 _ _ _)) Try.underlying29 rfl box_size) rfl ?_
  exact ⟨rfl, below_setRow (alloc2_below _ _ _) (by omega) _⟩

set_option maxRecDepth 100000 in
set_option maxHeartbeats 4000000 in
theorem rbox_far (w : World) (a0 : Option Addr) (n0 c0 : Nat) (a1 : Option Addr) (n1 c1 : Nat) (a2 : Option Addr) (n2 c2 : Nat) (N : Int) (hN : N = (n1 : Int) + (n2 : Int)) (CT : Hid (∀ w', Below w.heap.size w w' → Calls Try.prog 61 #[mvals a0 n0 c0 a1 n1 c1 a2 n2 c2] w' (VTo (.int .i64 N) w'))) (i : Int) (h0 : 0 ≤ i) (h : N ≤ i) : Calls Try.prog 55 #[mvals a0 n0 c0 a1 n1 c1 a2 n2 c2, .int .i64 i] w (VTo (boxV zeroB) w) := by
  have d0 : decide (i < 0) = false := decide_eq_false (by omega)
  have d1 : decide (N ≤ i) = true := decide_eq_true h
  clear h h0 hN
  obtain ⟨W, hW⟩ : ∃ W, W = W2 w a0 n0 c0 a1 n1 c1 a2 n2 c2 := ⟨_, rfl⟩
  have hB : Below w.heap.size w W := by rw [hW]; exact alloc2_below _ _ _
  have hR : W.heap[w.heap.size]? = some (.cells #[.slice a0 n0 c0, .slice a1 n1 c1, .slice a2 n2 c2] 44) := by rw [hW]; exact alloc2_0 _ _ _
  have hZ : W.heap[w.heap.size + 1]? = some (.cells #[.int .i64 0, .int .i64 0, .int .i64 0, .int .i64 0, .int .i64 0, .int .i64 0] 29) := by rw [hW]; exact alloc2_1 _ _ _
  have k0 := cell_row hR 0 (.slice a0 n0 c0) rfl
  have k1 := cell_row hR 1 (.slice a1 n1 c1) rfl
  have k2 := cell_row hR 2 (.slice a2 n2 c2) rfl
  have HR := Lib.hid hR
  have HB := Lib.hid hB
  have HZ := Lib.hid hZ
  have HWW := Lib.hid hW
  rw [hW] at k0 k1 k2
  clear hR hB hZ hW
  unfold mvals W2 at *
  go_enter Try.func55, Try.ntmps55
  go_wp2_with fail
  rw [← HWW.out]
  clear k0 k1 k2
  refine (CT.out _ HB.out).mono ?_
  rintro e w1 ⟨rfl, hb1⟩
  have HB1 := Lib.hid (HB.out.trans (hb1.mono HB.out.size))
  have HZ1 := Lib.hid (vec_step HZ.out hb1)
  clear hb1
  go_wp2_with (with_reducible refine store_box rfl (.tmp 4) (.tmp 20) rfl rfl (w.heap.size + 1) 0 0 0 0 0 0 rfl rfl _ HZ1.out rfl ?_)
  refine bodyPost_ret (results_cell_row rfl _ _ (w.heap.size + 1) 29 _ _ _ rfl (setRow_heap _ (w.heap.size + 1) _ _ _ _ (HZ1.out)) Try.underlying29 rfl box_size) rfl ?_
  exact ⟨rfl, below_setRow HB1.out (by omega) _⟩

set_option maxRecDepth 100000 in
set_option maxHeartbeats 4000000 in
theorem rbox_hasnt (w : World) (a0 : Option Addr) (n0 c0 : Nat) (a1 : Option Addr) (n1 c1 : Nat) (a2 : Option Addr) (n2 c2 : Nat) (N : Int) (hN : N = (n1 : Int) + (n2 : Int)) (CT : Hid (∀ w', Below w.heap.size w w' → Calls Try.prog 61 #[mvals a0 n0 c0 a1 n1 c1 a2 n2 c2] w' (VTo (.int .i64 N) w'))) (ts : List V3) (hts : Recs 3 enc3 w (.slice a1 n1 c1) ts) (j : Nat) (hj : j < ts.length) (x y z : Int) (ht : ts[j] = ⟨x, y, z⟩) (l0 : n0 ≤ 9223372036854775807) (hh : hasF n0 ⟨x, y, z⟩ = false) : Calls Try.prog 55 #[mvals a0 n0 c0 a1 n1 c1 a2 n2 c2, .int .i64 (j : Int)] w (VTo (boxV zeroB) w) := by
  have hjn : j < n1 := by rw [hts.fits]; exact hj
  have d0 : decide ((j : Int) < 0) = false := decide_eq_false (by omega)
  have d1 : decide (N ≤ (j : Int)) = false := decide_eq_false (by omega)
  have d3 : decide ((j : Int) < (n1 : Int)) = true := decide_eq_true (by omega)
  have d4 : decide (j < n1) = true := decide_eq_true hjn
  have CH := Lib.hid (fun w => (hh ▸ there_any a0 n0 c0 (.slice a1 n1 c1) (.slice a2 n2 c2) l0 ⟨x, y, z⟩ w : Calls Try.prog 76 #[mvals a0 n0 c0 a1 n1 c1 a2 n2 c2, .agg #[.int .i64 x, .int .i64 y, .int .i64 z]] w (VTo (.bool false) w)))
  have HTS := Lib.hid hts
  have HJ := Lib.hid ht
  clear hN hts ht hh l0
  obtain ⟨W, hW⟩ : ∃ W, W = W2 w a0 n0 c0 a1 n1 c1 a2 n2 c2 := ⟨_, rfl⟩
  have hB : Below w.heap.size w W := by rw [hW]; exact alloc2_below _ _ _
  have hR : W.heap[w.heap.size]? = some (.cells #[.slice a0 n0 c0, .slice a1 n1 c1, .slice a2 n2 c2] 44) := by rw [hW]; exact alloc2_0 _ _ _
  have hZ : W.heap[w.heap.size + 1]? = some (.cells #[.int .i64 0, .int .i64 0, .int .i64 0, .int .i64 0, .int .i64 0, .int .i64 0] 29) := by rw [hW]; exact alloc2_1 _ _ _
  have k0 := cell_row hR 0 (.slice a0 n0 c0) rfl
  have k1 := cell_row hR 1 (.slice a1 n1 c1) rfl
  have k2 := cell_row hR 2 (.slice a2 n2 c2) rfl
  have HR := Lib.hid hR
  have HB := Lib.hid hB
  have HZ := Lib.hid hZ
  have HWW := Lib.hid hW
  rw [hW] at k0 k1 k2
  clear hR hB hZ hW
  unfold mvals W2 at *
  go_enter Try.func55, Try.ntmps55
  go_wp2_with fail
  rw [← HWW.out]
  clear k0 k1 k2
  refine (CT.out _ HB.out).mono ?_
  rintro e w1 ⟨rfl, hb1⟩
  have HB1 := Lib.hid (HB.out.trans (hb1.mono HB.out.size))
  have HZ1 := Lib.hid (vec_step HZ.out hb1)
  have HR1 := Lib.hid (vec_step HR.out hb1)
  have HW1 := Lib.hid (HB.out.trans (hb1.mono HB.out.size))
  clear hb1 CT HB HZ HR HWW
  have k0 := cell_row HR1.out 0 (.slice a0 n0 c0) rfl
  have k1 := cell_row HR1.out 1 (.slice a1 n1 c1) rfl
  have k2 := cell_row HR1.out 2 (.slice a2 n2 c2) rfl
  obtain ⟨b, off, e, hbl, p0, p1, p2⟩ := at3 (HTS.out.below HW1.out (Nat.le_refl _)) j hj
  subst e
  rw [HJ.out] at p0 p1 p2
  clear HTS HJ hbl
  dsimp only at p0 p1 p2
  go_upto_region 5 with (with_reducible refine store_tri rfl (.tmp 5) (.tmp 30) rfl rfl w1.heap.size x y z rfl rfl _ (heap_alloc_new _ _) rfl ?_)
  clear k0 k1 k2 p0 p1 p2
  have H6 := Lib.hid (put4_row w1 46 #[.int .i64 0, .int .i64 0, .int .i64 0] #[.int .i64 x, .int .i64 y, .int .i64 z])
  have HB6 := Lib.hid (put_ext w1 (.cells #[.int .i64 0, .int .i64 0, .int .i64 0] 46) #[.int .i64 x, .int .i64 y, .int .i64 z])
  have HB2 := Lib.hid (HB1.out.trans (HB6.out.mono HB1.out.size))
  have HZ2 := Lib.hid (vec_step HZ1.out HB6.out)
  have HR2 := Lib.hid (vec_step HR1.out HB6.out)
  clear HB1 HB6 HR1 HZ1 HW1
  obtain ⟨W3, hW3⟩ : ∃ W, W = (w1.alloc (.cells #[.int .i64 0, .int .i64 0, .int .i64 0] 46)).setRow w1.heap.size #[.int .i64 x, .int .i64 y, .int .i64 z] := ⟨_, rfl⟩
  rw [← hW3] at H6 HB2 HZ2 HR2 ⊢
  clear hW3
  generalize w1.heap.size = g6 at H6 ⊢
  obtain ⟨c0', c1', c2'⟩ := cells_now H6.out
  have k0 := cell_row HR2.out 0 (.slice a0 n0 c0) rfl
  have k1 := cell_row HR2.out 1 (.slice (some ⟨b, off, none⟩) n1 c1) rfl
  have k2 := cell_row HR2.out 2 (.slice a2 n2 c2) rfl
  go_wp2_with fail
  refine (CH.out _).mono ?_
  rintro e w4 ⟨rfl, hb4⟩
  have HB4 := Lib.hid (HB2.out.trans (hb4.mono HB2.out.size))
  have HZ4 := Lib.hid (vec_step HZ2.out hb4)
  clear hb4 c0' c1' c2' k0 k1 k2 HB2 HZ2
  go_wp2_with (with_reducible refine store_box rfl (.tmp 4) (.tmp 35) rfl rfl (w.heap.size + 1) 0 0 0 0 0 0 rfl rfl _ HZ4.out rfl ?_)
  refine bodyPost_ret (results_cell_row rfl _ _ (w.heap.size + 1) 29 _ _ _ rfl (setRow_heap _ (w.heap.size + 1) _ _ _ _ (HZ4.out)) Try.underlying29 rfl box_size) rfl ?_
  exact ⟨rfl, below_setRow HB4.out (by omega) _⟩

set_option maxRecDepth 100000 in
set_option maxHeartbeats 4000000 in
theorem rbox_tri (w : World) (a0 : Option Addr) (n0 c0 : Nat) (a1 : Option Addr) (n1 c1 : Nat) (a2 : Option Addr) (n2 c2 : Nat) (N : Int) (hN : N = (n1 : Int) + (n2 : Int)) (CT : Hid (∀ w', Below w.heap.size w w' → Calls Try.prog 61 #[mvals a0 n0 c0 a1 n1 c1 a2 n2 c2] w' (VTo (.int .i64 N) w'))) (ts ps : List V3) (hts : Recs 3 enc3 w (.slice a1 n1 c1) ts) (hps : Recs 3 enc3 w (.slice a0 n0 c0) ps) (j : Nat) (hj : j < ts.length) (x y z : Nat) (ht : ts[j] = ⟨(x : Int), (y : Int), (z : Int)⟩) (hx : x < ps.length) (hy : y < ps.length) (hz : z < ps.length) (l0 : n0 ≤ 9223372036854775807) (hh : hasF n0 ⟨(x : Int), (y : Int), (z : Int)⟩ = true) : Calls Try.prog 55 #[mvals a0 n0 c0 a1 n1 c1 a2 n2 c2, .int .i64 (j : Int)] w (VTo (boxV (triB ps[x] ps[y] ps[z])) w) := by
  have hjn : j < n1 := by rw [hts.fits]; exact hj
  have hxn : x < n0 := by rw [hps.fits]; exact hx
  have hyn : y < n0 := by rw [hps.fits]; exact hy
  have hzn : z < n0 := by rw [hps.fits]; exact hz
  have d0 : decide ((j : Int) < 0) = false := decide_eq_false (by omega)
  have d1 : decide (N ≤ (j : Int)) = false := decide_eq_false (by omega)
  have d3 : decide ((j : Int) < (n1 : Int)) = true := decide_eq_true (by omega)
  have d4 : decide (j < n1) = true := decide_eq_true hjn
  have CH := Lib.hid (fun w => (hh ▸ there_any a0 n0 c0 (.slice a1 n1 c1) (.slice a2 n2 c2) l0 ⟨(x : Int), (y : Int), (z : Int)⟩ w : Calls Try.prog 76 #[mvals a0 n0 c0 a1 n1 c1 a2 n2 c2, .agg #[.int .i64 (x : Int), .int .i64 (y : Int), .int .i64 (z : Int)]] w (VTo (.bool true) w)))
  have HTS := Lib.hid hts
  have HPS := Lib.hid hps
  have HJ := Lib.hid ht
  have DX := Lib.hid hxn
  have DY := Lib.hid hyn
  have DZ := Lib.hid hzn
  clear hN hts hps ht hh l0 hxn hyn hzn
  obtain ⟨⟨pax, pay, paz⟩, hppa⟩ : ∃ p, p = ps[x] := ⟨_, rfl⟩
  rw [← hppa]
  have HPpa := Lib.hid hppa
  clear hppa
  obtain ⟨⟨pbx, pby, pbz⟩, hppb⟩ : ∃ p, p = ps[y] := ⟨_, rfl⟩
  rw [← hppb]
  have HPpb := Lib.hid hppb
  clear hppb
  obtain ⟨⟨pcx, pcy, pcz⟩, hppc⟩ : ∃ p, p = ps[z] := ⟨_, rfl⟩
  rw [← hppc]
  have HPpc := Lib.hid hppc
  clear hppc
  rw [tri_of]
  obtain ⟨⟨l1x, l1y, l1z⟩, hL1⟩ : ∃ L, L = lowV ⟨pbx, pby, pbz⟩ ⟨pcx, pcy, pcz⟩ := ⟨_, rfl⟩
  rw [← hL1]
  have CL1 : Hid (∀ w2, Calls Try.prog 77 #[.agg #[.int .i64 pbx, .int .i64 pby, .int .i64 pbz], .agg #[.int .i64 pcx, .int .i64 pcy, .int .i64 pcz]] w2 (VTo (.agg #[.int .i64 l1x, .int .i64 l1y, .int .i64 l1z]) w2)) := Lib.hid (fun w2 => by have := low_any ⟨pbx, pby, pbz⟩ ⟨pcx, pcy, pcz⟩ w2; rw [← hL1] at this; exact this)
  clear hL1
  obtain ⟨⟨l2x, l2y, l2z⟩, hL2⟩ : ∃ L, L = lowV ⟨pax, pay, paz⟩ ⟨l1x, l1y, l1z⟩ := ⟨_, rfl⟩
  rw [← hL2]
  have CL2 : Hid (∀ w2, Calls Try.prog 77 #[.agg #[.int .i64 pax, .int .i64 pay, .int .i64 paz], .agg #[.int .i64 l1x, .int .i64 l1y, .int .i64 l1z]] w2 (VTo (.agg #[.int .i64 l2x, .int .i64 l2y, .int .i64 l2z]) w2)) := Lib.hid (fun w2 => by have := low_any ⟨pax, pay, paz⟩ ⟨l1x, l1y, l1z⟩ w2; rw [← hL2] at this; exact this)
  clear hL2
  obtain ⟨⟨u1x, u1y, u1z⟩, hU1⟩ : ∃ L, L = highV ⟨pbx, pby, pbz⟩ ⟨pcx, pcy, pcz⟩ := ⟨_, rfl⟩
  rw [← hU1]
  have CU1 : Hid (∀ w2, Calls Try.prog 78 #[.agg #[.int .i64 pbx, .int .i64 pby, .int .i64 pbz], .agg #[.int .i64 pcx, .int .i64 pcy, .int .i64 pcz]] w2 (VTo (.agg #[.int .i64 u1x, .int .i64 u1y, .int .i64 u1z]) w2)) := Lib.hid (fun w2 => by have := high_any ⟨pbx, pby, pbz⟩ ⟨pcx, pcy, pcz⟩ w2; rw [← hU1] at this; exact this)
  clear hU1
  obtain ⟨⟨u2x, u2y, u2z⟩, hU2⟩ : ∃ L, L = highV ⟨pax, pay, paz⟩ ⟨u1x, u1y, u1z⟩ := ⟨_, rfl⟩
  rw [← hU2]
  have CU2 : Hid (∀ w2, Calls Try.prog 78 #[.agg #[.int .i64 pax, .int .i64 pay, .int .i64 paz], .agg #[.int .i64 u1x, .int .i64 u1y, .int .i64 u1z]] w2 (VTo (.agg #[.int .i64 u2x, .int .i64 u2y, .int .i64 u2z]) w2)) := Lib.hid (fun w2 => by have := high_any ⟨pax, pay, paz⟩ ⟨u1x, u1y, u1z⟩ w2; rw [← hU2] at this; exact this)
  clear hU2
  obtain ⟨W, hW⟩ : ∃ W, W = W2 w a0 n0 c0 a1 n1 c1 a2 n2 c2 := ⟨_, rfl⟩
  have hB : Below w.heap.size w W := by rw [hW]; exact alloc2_below _ _ _
  have hR : W.heap[w.heap.size]? = some (.cells #[.slice a0 n0 c0, .slice a1 n1 c1, .slice a2 n2 c2] 44) := by rw [hW]; exact alloc2_0 _ _ _
  have hZ : W.heap[w.heap.size + 1]? = some (.cells #[.int .i64 0, .int .i64 0, .int .i64 0, .int .i64 0, .int .i64 0, .int .i64 0] 29) := by rw [hW]; exact alloc2_1 _ _ _
  have k0 := cell_row hR 0 (.slice a0 n0 c0) rfl
  have k1 := cell_row hR 1 (.slice a1 n1 c1) rfl
  have k2 := cell_row hR 2 (.slice a2 n2 c2) rfl
  have HR := Lib.hid hR
  have HB := Lib.hid hB
  have HZ := Lib.hid hZ
  have HWW := Lib.hid hW
  rw [hW] at k0 k1 k2
  clear hR hB hZ hW
  unfold mvals W2 at *
  go_enter Try.func55, Try.ntmps55
  go_wp2_with fail
  rw [← HWW.out]
  clear k0 k1 k2
  refine (CT.out _ HB.out).mono ?_
  rintro e w1 ⟨rfl, hb1⟩
  have HB1 := Lib.hid (HB.out.trans (hb1.mono HB.out.size))
  have HZ1 := Lib.hid (vec_step HZ.out hb1)
  have HR1 := Lib.hid (vec_step HR.out hb1)
  have HW1 := Lib.hid (HB.out.trans (hb1.mono HB.out.size))
  clear hb1 CT HB HZ HR HWW
  have k0 := cell_row HR1.out 0 (.slice a0 n0 c0) rfl
  have k1 := cell_row HR1.out 1 (.slice a1 n1 c1) rfl
  have k2 := cell_row HR1.out 2 (.slice a2 n2 c2) rfl
  obtain ⟨b, off, e, hbl, p0, p1, p2⟩ := at3 (HTS.out.below HW1.out (Nat.le_refl _)) j hj
  subst e
  rw [HJ.out] at p0 p1 p2
  clear HTS HJ hbl
  dsimp only at p0 p1 p2
  go_upto_region 5 with (with_reducible refine store_tri rfl (.tmp 5) (.tmp 30) rfl rfl w1.heap.size x y z rfl rfl _ (heap_alloc_new _ _) rfl ?_)
  clear k0 k1 k2 p0 p1 p2
  have H6 := Lib.hid (put4_row w1 46 #[.int .i64 0, .int .i64 0, .int .i64 0] #[.int .i64 x, .int .i64 y, .int .i64 z])
  have HB6 := Lib.hid (put_ext w1 (.cells #[.int .i64 0, .int .i64 0, .int .i64 0] 46) #[.int .i64 x, .int .i64 y, .int .i64 z])
  have HB2 := Lib.hid (HB1.out.trans (HB6.out.mono HB1.out.size))
  have HZ2 := Lib.hid (vec_step HZ1.out HB6.out)
  have HR2 := Lib.hid (vec_step HR1.out HB6.out)
  clear HB1 HB6 HR1 HZ1 HW1
  obtain ⟨W3, hW3⟩ : ∃ W, W = (w1.alloc (.cells #[.int .i64 0, .int .i64 0, .int .i64 0] 46)).setRow w1.heap.size #[.int .i64 x, .int .i64 y, .int .i64 z] := ⟨_, rfl⟩
  rw [← hW3] at H6 HB2 HZ2 HR2 ⊢
  clear hW3
  generalize w1.heap.size = g6 at H6 ⊢
  obtain ⟨c0', c1', c2'⟩ := cells_now H6.out
  have k0 := cell_row HR2.out 0 (.slice a0 n0 c0) rfl
  have k1 := cell_row HR2.out 1 (.slice (some ⟨b, off, none⟩) n1 c1) rfl
  have k2 := cell_row HR2.out 2 (.slice a2 n2 c2) rfl
  go_wp2_with fail
  refine (CH.out _).mono ?_
  rintro e w4 ⟨rfl, hb4⟩
  have HB4 := Lib.hid (HB2.out.trans (hb4.mono HB2.out.size))
  have HZ4 := Lib.hid (vec_step HZ2.out hb4)
  have HR4 := Lib.hid (vec_step HR2.out hb4)
  have HT4 := Lib.hid (vec_step H6.out hb4)
  have HP4 := Lib.hid (HPS.out.below HB4.out (Nat.le_refl _))
  clear hb4 c0' c1' c2' k0 k1 k2 HB2 HZ2 HR2 H6 HPS
  go_upto_region 7 with (fail)
  have K0 := Lib.hid (fun W9 (hb : Below w4.heap.size w4 W9) => cell_all (vec_step HR4.out hb) 0 _ rfl)
  have KT := Lib.hid (fun W9 (hb : Below w4.heap.size w4 W9) => cells3 (vec_step HT4.out hb))
  have hps4 := HP4.out
  obtain ⟨b4, off4, e4, hb4', _, _, _⟩ := at3 hps4 x hx
  subst e4
  have HPS4 := Lib.hid hps4
  clear hps4 hb4'
  have Kpa : Hid (∀ W9, Below w4.heap.size w4 W9 → (∀ d os, (grow (redrawn W9 d) os).cell? ⟨b4, off4 + x * 3, none⟩ = some (.int .i64 pax)) ∧ (∀ d os, (grow (redrawn W9 d) os).cell? ⟨b4, off4 + x * 3 + 1, none⟩ = some (.int .i64 pay)) ∧ (∀ d os, (grow (redrawn W9 d) os).cell? ⟨b4, off4 + x * 3 + 2, none⟩ = some (.int .i64 paz))) := by
    refine Lib.hid (fun W9 hb => ?_)
    obtain ⟨b5, off5, e5, _, q0, q1, q2⟩ := at3 (HPS4.out.below hb (Nat.le_refl _)) x hx
    simp only [Option.some.injEq, Addr.mk.injEq, and_true] at e5
    obtain ⟨rfl, rfl⟩ := e5
    rw [← HPpa.out] at q0 q1 q2
    exact ⟨fun d os => cell_regrown q0 d os, fun d os => cell_regrown q1 d os, fun d os => cell_regrown q2 d os⟩
  have Kpb : Hid (∀ W9, Below w4.heap.size w4 W9 → (∀ d os, (grow (redrawn W9 d) os).cell? ⟨b4, off4 + y * 3, none⟩ = some (.int .i64 pbx)) ∧ (∀ d os, (grow (redrawn W9 d) os).cell? ⟨b4, off4 + y * 3 + 1, none⟩ = some (.int .i64 pby)) ∧ (∀ d os, (grow (redrawn W9 d) os).cell? ⟨b4, off4 + y * 3 + 2, none⟩ = some (.int .i64 pbz))) := by
    refine Lib.hid (fun W9 hb => ?_)
    obtain ⟨b5, off5, e5, _, q0, q1, q2⟩ := at3 (HPS4.out.below hb (Nat.le_refl _)) y hy
    simp only [Option.some.injEq, Addr.mk.injEq, and_true] at e5
    obtain ⟨rfl, rfl⟩ := e5
    rw [← HPpb.out] at q0 q1 q2
    exact ⟨fun d os => cell_regrown q0 d os, fun d os => cell_regrown q1 d os, fun d os => cell_regrown q2 d os⟩
  have Kpc : Hid (∀ W9, Below w4.heap.size w4 W9 → (∀ d os, (grow (redrawn W9 d) os).cell? ⟨b4, off4 + z * 3, none⟩ = some (.int .i64 pcx)) ∧ (∀ d os, (grow (redrawn W9 d) os).cell? ⟨b4, off4 + z * 3 + 1, none⟩ = some (.int .i64 pcy)) ∧ (∀ d os, (grow (redrawn W9 d) os).cell? ⟨b4, off4 + z * 3 + 2, none⟩ = some (.int .i64 pcz))) := by
    refine Lib.hid (fun W9 hb => ?_)
    obtain ⟨b5, off5, e5, _, q0, q1, q2⟩ := at3 (HPS4.out.below hb (Nat.le_refl _)) z hz
    simp only [Option.some.injEq, Addr.mk.injEq, and_true] at e5
    obtain ⟨rfl, rfl⟩ := e5
    rw [← HPpc.out] at q0 q1 q2
    exact ⟨fun d os => cell_regrown q0 d os, fun d os => cell_regrown q1 d os, fun d os => cell_regrown q2 d os⟩
  clear HPS4 HPpa HPpb HPpc
  have HRR := Lib.hid (HR4.out)
  refine wp_region_free 115 [0, 1, 2, 3, 4, 5, 6, 7, 8, 9, 10, 11, 12, 13, 14, 15, 16, 17] [⟨18, 6, #[.int .i64 0, .int .i64 0, .int .i64 0], 23, 21, 41, #[.int .i64 pax, .int .i64 pay, .int .i64 paz]⟩, ⟨19, 7, #[.int .i64 0, .int .i64 0, .int .i64 0], 23, 22, 47, #[.int .i64 pbx, .int .i64 pby, .int .i64 pbz]⟩, ⟨20, 8, #[.int .i64 0, .int .i64 0, .int .i64 0], 23, 23, 53, #[.int .i64 pcx, .int .i64 pcy, .int .i64 pcz]⟩] (by kernel_rfl) rfl (by kernel_rfl) (by
    intro x hx
    simp only [List.mem_cons, List.not_mem_nil, or_false] at hx
    rcases hx with rfl | rfl | rfl
    · exact ⟨⟨_, rfl, ⟨⟨_, rfl, alloc_vec⟩, rfl, rfl⟩⟩, _, rfl, ⟨⟨_, rfl, vec_size⟩, rfl, rfl, rfl, row_one _ _ _⟩⟩
    · exact ⟨⟨_, rfl, ⟨⟨_, rfl, alloc_vec⟩, rfl, rfl⟩⟩, _, rfl, ⟨⟨_, rfl, vec_size⟩, rfl, rfl, rfl, row_one _ _ _⟩⟩
    · exact ⟨⟨_, rfl, ⟨⟨_, rfl, alloc_vec⟩, rfl, rfl⟩⟩, _, rfl, ⟨⟨_, rfl, vec_size⟩, rfl, rfl, rfl, row_one _ _ _⟩⟩) ?_
  refine Walk.step (A := ?Ap0) (o := ?op0) ?ep0 ?wp0 36 ?dp0 (by simp) ?hp0 ?np0
  case ep0 => simp only [List.getElem?_toArray, List.getElem?_cons_succ, List.getElem?_cons_zero]; exact rfl
  case wp0 => exact rfl
  case dp0 => exact rfl
  case hp0 =>
    intro W9 hW9
    go_big_quiet_op
    exact rfl
  refine Walk.step (A := ?Ap1) (o := ?op1) ?ep1 ?wp1 37 ?dp1 (by simp) ?hp1 ?np1
  case ep1 => simp only [List.getElem?_toArray, List.getElem?_cons_succ, List.getElem?_cons_zero]; exact rfl
  case wp1 => exact rfl
  case dp1 => exact rfl
  case hp1 =>
    intro W9 hW9
    have z0 := K0.out W9 hW9
    go_big_quiet_op
    exact rfl
  refine Walk.step (A := ?Ap2) (o := ?op2) ?ep2 ?wp2 38 ?dp2 (by simp) ?hp2 ?np2
  case ep2 => simp only [List.getElem?_toArray, List.getElem?_cons_succ, List.getElem?_cons_zero]; exact rfl
  case wp2 => exact rfl
  case dp2 => exact rfl
  case hp2 =>
    intro W9 hW9
    go_big_quiet_op
    exact rfl
  refine Walk.step (A := ?Ap3) (o := ?op3) ?ep3 ?wp3 39 ?dp3 (by simp) ?hp3 ?np3
  case ep3 => simp only [List.getElem?_toArray, List.getElem?_cons_succ, List.getElem?_cons_zero]; exact rfl
  case wp3 => exact rfl
  case dp3 => exact rfl
  case hp3 =>
    intro W9 hW9
    obtain ⟨z0, z1, z2⟩ := KT.out W9 hW9
    go_big_quiet_op
    exact rfl
  refine Walk.step (A := ?Ap4) (o := ?op4) ?ep4 ?wp4 40 ?dp4 (by simp) ?hp4 ?np4
  case ep4 => simp only [List.getElem?_toArray, List.getElem?_cons_succ, List.getElem?_cons_zero]; exact rfl
  case wp4 => exact rfl
  case dp4 => exact rfl
  case hp4 =>
    intro W9 hW9
    have z0 := DX.out
    go_big_quiet_op
    exact rfl
  refine Walk.step (A := ?Ap5) (o := ?op5) ?ep5 ?wp5 41 ?dp5 (by simp) ?hp5 ?np5
  case ep5 => simp only [List.getElem?_toArray, List.getElem?_cons_succ, List.getElem?_cons_zero]; exact rfl
  case wp5 => exact rfl
  case dp5 => exact rfl
  case hp5 =>
    intro W9 hW9
    obtain ⟨z0, z1, z2⟩ := Kpa.out W9 hW9
    go_big_quiet_op
    exact rfl
  refine Walk.step (A := ?Ap6) (o := ?op6) ?ep6 ?wp6 42 ?dp6 (by simp) ?hp6 ?np6
  case ep6 => simp only [List.getElem?_toArray, List.getElem?_cons_succ, List.getElem?_cons_zero]; exact rfl
  case wp6 => exact rfl
  case dp6 => exact rfl
  case hp6 =>
    intro W9 hW9
    go_big_quiet_op
    exact rfl
  refine Walk.step (A := ?Ap7) (o := ?op7) ?ep7 ?wp7 43 ?dp7 (by simp) ?hp7 ?np7
  case ep7 => simp only [List.getElem?_toArray, List.getElem?_cons_succ, List.getElem?_cons_zero]; exact rfl
  case wp7 => exact rfl
  case dp7 => exact rfl
  case hp7 =>
    intro W9 hW9
    have z0 := K0.out W9 hW9
    go_big_quiet_op
    exact rfl
  refine Walk.step (A := ?Ap8) (o := ?op8) ?ep8 ?wp8 44 ?dp8 (by simp) ?hp8 ?np8
  case ep8 => simp only [List.getElem?_toArray, List.getElem?_cons_succ, List.getElem?_cons_zero]; exact rfl
  case wp8 => exact rfl
  case dp8 => exact rfl
  case hp8 =>
    intro W9 hW9
    go_big_quiet_op
    exact rfl
  refine Walk.step (A := ?Ap9) (o := ?op9) ?ep9 ?wp9 45 ?dp9 (by simp) ?hp9 ?np9
  case ep9 => simp only [List.getElem?_toArray, List.getElem?_cons_succ, List.getElem?_cons_zero]; exact rfl
  case wp9 => exact rfl
  case dp9 => exact rfl
  case hp9 =>
    intro W9 hW9
    obtain ⟨z0, z1, z2⟩ := KT.out W9 hW9
    go_big_quiet_op
    exact rfl
  refine Walk.step (A := ?Ap10) (o := ?op10) ?ep10 ?wp10 46 ?dp10 (by simp) ?hp10 ?np10
  case ep10 => simp only [List.getElem?_toArray, List.getElem?_cons_succ, List.getElem?_cons_zero]; exact rfl
  case wp10 => exact rfl
  case dp10 => exact rfl
  case hp10 =>
    intro W9 hW9
    have z0 := DY.out
    go_big_quiet_op
    exact rfl
  refine Walk.step (A := ?Ap11) (o := ?op11) ?ep11 ?wp11 47 ?dp11 (by simp) ?hp11 ?np11
  case ep11 => simp only [List.getElem?_toArray, List.getElem?_cons_succ, List.getElem?_cons_zero]; exact rfl
  case wp11 => exact rfl
  case dp11 => exact rfl
  case hp11 =>
    intro W9 hW9
    obtain ⟨z0, z1, z2⟩ := Kpb.out W9 hW9
    go_big_quiet_op
    exact rfl
  refine Walk.step (A := ?Ap12) (o := ?op12) ?ep12 ?wp12 48 ?dp12 (by simp) ?hp12 ?np12
  case ep12 => simp only [List.getElem?_toArray, List.getElem?_cons_succ, List.getElem?_cons_zero]; exact rfl
  case wp12 => exact rfl
  case dp12 => exact rfl
  case hp12 =>
    intro W9 hW9
    go_big_quiet_op
    exact rfl
  refine Walk.step (A := ?Ap13) (o := ?op13) ?ep13 ?wp13 49 ?dp13 (by simp) ?hp13 ?np13
  case ep13 => simp only [List.getElem?_toArray, List.getElem?_cons_succ, List.getElem?_cons_zero]; exact rfl
  case wp13 => exact rfl
  case dp13 => exact rfl
  case hp13 =>
    intro W9 hW9
    have z0 := K0.out W9 hW9
    go_big_quiet_op
    exact rfl
  refine Walk.step (A := ?Ap14) (o := ?op14) ?ep14 ?wp14 50 ?dp14 (by simp) ?hp14 ?np14
  case ep14 => simp only [List.getElem?_toArray, List.getElem?_cons_succ, List.getElem?_cons_zero]; exact rfl
  case wp14 => exact rfl
  case dp14 => exact rfl
  case hp14 =>
    intro W9 hW9
    go_big_quiet_op
    exact rfl
  refine Walk.step (A := ?Ap15) (o := ?op15) ?ep15 ?wp15 51 ?dp15 (by simp) ?hp15 ?np15
  case ep15 => simp only [List.getElem?_toArray, List.getElem?_cons_succ, List.getElem?_cons_zero]; exact rfl
  case wp15 => exact rfl
  case dp15 => exact rfl
  case hp15 =>
    intro W9 hW9
    obtain ⟨z0, z1, z2⟩ := KT.out W9 hW9
    go_big_quiet_op
    exact rfl
  refine Walk.step (A := ?Ap16) (o := ?op16) ?ep16 ?wp16 52 ?dp16 (by simp) ?hp16 ?np16
  case ep16 => simp only [List.getElem?_toArray, List.getElem?_cons_succ, List.getElem?_cons_zero]; exact rfl
  case wp16 => exact rfl
  case dp16 => exact rfl
  case hp16 =>
    intro W9 hW9
    have z0 := DZ.out
    go_big_quiet_op
    exact rfl
  refine Walk.step (A := ?Ap17) (o := ?op17) ?ep17 ?wp17 53 ?dp17 (by simp) ?hp17 ?np17
  case ep17 => simp only [List.getElem?_toArray, List.getElem?_cons_succ, List.getElem?_cons_zero]; exact rfl
  case wp17 => exact rfl
  case dp17 => exact rfl
  case hp17 =>
    intro W9 hW9
    obtain ⟨z0, z1, z2⟩ := Kpc.out W9 hW9
    go_big_quiet_op
    exact rfl
  refine ⟨?_, ?_⟩
  · intro x hx
    simp only [List.mem_cons, List.not_mem_nil, or_false] at hx
    rcases hx with rfl | rfl | rfl <;> rfl
  intro G hG hne w5 hD5 hk
  have k7 := hk _ (List.mem_cons_self ..)
  have k8 := hk _ (List.mem_cons_of_mem _ (List.mem_cons_self ..))
  have k9 := hk _ (List.mem_cons_of_mem _ (List.mem_cons_of_mem _ (List.mem_cons_self ..)))
  dsimp only at k7 k8 k9
  simp only [lay, Act.put, List.setIfInBounds_toArray, List.set_cons_succ, List.set_cons_zero, ptr]
  generalize G 18 = g7 at k7 ⊢
  generalize G 19 = g8 at k8 ⊢
  generalize G 20 = g9 at k9 ⊢
  have H7 := Lib.hid k7
  have H8 := Lib.hid k8
  have H9 := Lib.hid k9
  have HB9 := Lib.hid (HB4.out.trans (hD5.mono HB4.out.size))
  have HZ9 := Lib.hid (vec_step HZ4.out hD5)
  clear hG hne hD5 hk k7 k8 k9 K0 KT Kpa Kpb Kpc HRR HB4 HZ4 HR4 HT4 HP4 DX DY DZ
  go_upto_region 8 with (fail)
  obtain ⟨u0, u1, u2⟩ := cells3 H7.out
  obtain ⟨u3, u4, u5⟩ := cells3 H8.out
  obtain ⟨u6, u7, u8⟩ := cells3 H9.out
  have Q1 := Lib.hid (qb (P := Try.prog) (W := w5) (fun w2 hb => CL1.out w2))
  have Q2 := Lib.hid (qb (P := Try.prog) (W := w5) (fun w2 hb => CL2.out w2))
  have Q3 := Lib.hid (qb (P := Try.prog) (W := w5) (fun w2 hb => CU1.out w2))
  have Q4 := Lib.hid (qb (P := Try.prog) (W := w5) (fun w2 hb => CU2.out w2))
  refine wp_region_below_tail 11 (by kernel_rfl) (by kernel_rfl) ?_
  simp only [List.take_succ_cons, List.take_zero, List.drop_succ_cons, List.drop_zero]
  repeat (go_big_quiet_step (first | (with_reducible exact Q1.out _ _) | (with_reducible exact Q2.out _ _) | (with_reducible exact Q3.out _ _) | (with_reducible exact Q4.out _ _)))
  refine wpQuiet_nil ?_
  rintro _ ⟨⟨dq, osq⟩, rfl⟩
  have HZ3 := Lib.hid (heap_regrown HZ9.out dq osq)
  have HB3 := Lib.hid (HB9.out.trans ((below_regrown w5 dq osq).mono HB9.out.size))
  clear u0 u1 u2 u3 u4 u5 u6 u7 u8 HZ9 HB9 H7 H8 H9
  refine store_box rfl (.tmp 4) (.tmp 64) rfl rfl (w.heap.size + 1) l2x l2y l2z u2x u2y u2z rfl rfl _ HZ3.out rfl ?_
  go_wp2_with fail
  refine bodyPost_ret (results_cell_row rfl _ _ (w.heap.size + 1) 29 _ _ _ rfl (setRow_heap _ (w.heap.size + 1) _ _ _ _ (HZ3.out)) Try.underlying29 rfl box_size) rfl ?_
  exact ⟨rfl, below_setRow HB3.out (by omega) _⟩

set_option maxRecDepth 100000 in
set_option maxHeartbeats 4000000 in
theorem rbox_ball (w : World) (a0 : Option Addr) (n0 c0 : Nat) (a1 : Option Addr) (n1 c1 : Nat) (a2 : Option Addr) (n2 c2 : Nat) (N : Int) (hN : N = (n1 : Int) + (n2 : Int)) (CT : Hid (∀ w', Below w.heap.size w w' → Calls Try.prog 61 #[mvals a0 n0 c0 a1 n1 c1 a2 n2 c2] w' (VTo (.int .i64 N) w'))) (bs : List B4) (hbs : Recs 4 enc4 w (.slice a2 n2 c2) bs) (j : Nat) (hj : j < bs.length) (x y z r : Int) (hb : bs[j] = ⟨⟨x, y, z⟩, r⟩) (hx : In x) (hy : In y) (hz : In z) (hr : In r) (l1 : n1 ≤ 9223372036854775807) (i : Int) (hi2 : i ≤ 9223372036854775807) (hi : i = (n1 : Int) + (j : Int)) : Calls Try.prog 55 #[mvals a0 n0 c0 a1 n1 c1 a2 n2 c2, .int .i64 i] w (VTo (boxV (ballB ⟨⟨x, y, z⟩, r⟩)) w) := by
  have hjn : j < n2 := by rw [hbs.fits]; exact hj
  have d0 : decide (i < 0) = false := decide_eq_false (by omega)
  have d1 : decide (N ≤ i) = false := decide_eq_false (by omega)
  have d2 : decide (i < (n1 : Int)) = false := decide_eq_false (by omega)
  have wr : IntKind.i64.wrap (i - (n1 : Int)) = (j : Int) := by rw [wrap_in (by omega) (by omega)]; omega
  have d3 : decide ((j : Int) < (n2 : Int)) = true := decide_eq_true (by omega)
  have d4 : decide (j < n2) = true := decide_eq_true hjn
  have Q1 := Lib.hid (fun W => qs (P := Try.prog) (W := W) (fun w2 => ref_sub x r hx.1 hx.2 hr.1 hr.2 w2))
  have Q2 := Lib.hid (fun W => qs (P := Try.prog) (W := W) (fun w2 => ref_sub y r hy.1 hy.2 hr.1 hr.2 w2))
  have Q3 := Lib.hid (fun W => qs (P := Try.prog) (W := W) (fun w2 => ref_sub z r hz.1 hz.2 hr.1 hr.2 w2))
  have Q4 := Lib.hid (fun W => qs (P := Try.prog) (W := W) (fun w2 => ref_add x r hx.1 hx.2 hr.1 hr.2 w2))
  have Q5 := Lib.hid (fun W => qs (P := Try.prog) (W := W) (fun w2 => ref_add y r hy.1 hy.2 hr.1 hr.2 w2))
  have Q6 := Lib.hid (fun W => qs (P := Try.prog) (W := W) (fun w2 => ref_add z r hz.1 hz.2 hr.1 hr.2 w2))
  have HBS := Lib.hid hbs
  have HJ := Lib.hid hb
  clear hN hi hi2 hx hy hz hr l1 hbs hb
  unfold ballB
  dsimp only
  obtain ⟨e1, he1⟩ : ∃ e, e = subF x r := ⟨_, rfl⟩
  rw [← he1] at Q1 ⊢
  obtain ⟨e2, he2⟩ : ∃ e, e = subF y r := ⟨_, rfl⟩
  rw [← he2] at Q2 ⊢
  obtain ⟨e3, he3⟩ : ∃ e, e = subF z r := ⟨_, rfl⟩
  rw [← he3] at Q3 ⊢
  obtain ⟨e4, he4⟩ : ∃ e, e = addF x r := ⟨_, rfl⟩
  rw [← he4] at Q4 ⊢
  obtain ⟨e5, he5⟩ : ∃ e, e = addF y r := ⟨_, rfl⟩
  rw [← he5] at Q5 ⊢
  obtain ⟨e6, he6⟩ : ∃ e, e = addF z r := ⟨_, rfl⟩
  rw [← he6] at Q6 ⊢
  clear he1 he2 he3 he4 he5 he6
  obtain ⟨W, hW⟩ : ∃ W, W = W2 w a0 n0 c0 a1 n1 c1 a2 n2 c2 := ⟨_, rfl⟩
  have hB : Below w.heap.size w W := by rw [hW]; exact alloc2_below _ _ _
  have hR : W.heap[w.heap.size]? = some (.cells #[.slice a0 n0 c0, .slice a1 n1 c1, .slice a2 n2 c2] 44) := by rw [hW]; exact alloc2_0 _ _ _
  have hZ : W.heap[w.heap.size + 1]? = some (.cells #[.int .i64 0, .int .i64 0, .int .i64 0, .int .i64 0, .int .i64 0, .int .i64 0] 29) := by rw [hW]; exact alloc2_1 _ _ _
  have k0 := cell_row hR 0 (.slice a0 n0 c0) rfl
  have k1 := cell_row hR 1 (.slice a1 n1 c1) rfl
  have k2 := cell_row hR 2 (.slice a2 n2 c2) rfl
  have HR := Lib.hid hR
  have HB := Lib.hid hB
  have HZ := Lib.hid hZ
  have HWW := Lib.hid hW
  rw [hW] at k0 k1 k2
  clear hR hB hZ hW
  unfold mvals W2 at *
  go_enter Try.func55, Try.ntmps55
  go_wp2_with fail
  rw [← HWW.out]
  clear k0 k1 k2
  refine (CT.out _ HB.out).mono ?_
  rintro e w1 ⟨rfl, hb1⟩
  have HB1 := Lib.hid (HB.out.trans (hb1.mono HB.out.size))
  have HZ1 := Lib.hid (vec_step HZ.out hb1)
  have HR1 := Lib.hid (vec_step HR.out hb1)
  have HW1 := Lib.hid (HB.out.trans (hb1.mono HB.out.size))
  clear hb1 CT HB HZ HR HWW
  have k0 := cell_row HR1.out 0 (.slice a0 n0 c0) rfl
  have k1 := cell_row HR1.out 1 (.slice a1 n1 c1) rfl
  have k2 := cell_row HR1.out 2 (.slice a2 n2 c2) rfl
  obtain ⟨b, off, e, hbl, p0, p1, p2, p3⟩ := at4 (HBS.out.below HW1.out (Nat.le_refl _)) j hj
  subst e
  rw [HJ.out] at p0 p1 p2 p3
  clear HBS HJ hbl
  dsimp only at p0 p1 p2 p3
  go_upto_region 10 with (with_reducible refine store_ball rfl (.tmp 9) (.tmp 73) rfl rfl w1.heap.size x y z r rfl rfl _ (heap_alloc_new _ _) rfl ?_)
  clear k0 k1 k2 p0 p1 p2 p3
  have H5 := Lib.hid (put4_row w1 39 #[.int .i64 0, .int .i64 0, .int .i64 0, .int .i64 0] #[.int .i64 x, .int .i64 y, .int .i64 z, .int .i64 r])
  have HB5 := Lib.hid (put_ext w1 (.cells #[.int .i64 0, .int .i64 0, .int .i64 0, .int .i64 0] 39) #[.int .i64 x, .int .i64 y, .int .i64 z, .int .i64 r])
  have HB2 := Lib.hid (HB1.out.trans (HB5.out.mono HB1.out.size))
  have HZ2 := Lib.hid (vec_step HZ1.out HB5.out)
  clear HB1 HB5 HR1 HZ1 HW1
  obtain ⟨W3, hW3⟩ : ∃ W, W = (w1.alloc (.cells #[.int .i64 0, .int .i64 0, .int .i64 0, .int .i64 0] 39)).setRow w1.heap.size #[.int .i64 x, .int .i64 y, .int .i64 z, .int .i64 r] := ⟨_, rfl⟩
  rw [← hW3] at H5 HB2 HZ2 ⊢
  clear hW3
  generalize w1.heap.size = g5 at H5 ⊢
  have Ja0 := Lib.hid (fun W9 (hb : Below W3.heap.size W3 W9) => cell_all (vec_step H5.out hb) 0 (.int .i64 x) rfl)
  have Ja1 := Lib.hid (fun W9 (hb : Below W3.heap.size W3 W9) => cell_all (vec_step H5.out hb) 1 (.int .i64 y) rfl)
  have Ja2 := Lib.hid (fun W9 (hb : Below W3.heap.size W3 W9) => cell_all (vec_step H5.out hb) 2 (.int .i64 z) rfl)
  have Ja3 := Lib.hid (fun W9 (hb : Below W3.heap.size W3 W9) => cell_all (vec_step H5.out hb) 3 (.int .i64 r) rfl)
  refine wp_region_free 115 [0, 1, 2, 3, 4, 5, 6, 7, 8, 9, 10, 11, 12, 13, 14, 15, 16, 17, 18] [⟨19, 10, #[.int .i64 0, .int .i64 0, .int .i64 0], 23, 20, 92, #[.int .i64 e1, .int .i64 e2, .int .i64 e3]⟩] (by kernel_rfl) rfl (by kernel_rfl) (by
    intro x hx
    simp only [List.mem_cons, List.not_mem_nil, or_false] at hx
    rcases hx with rfl
    · exact ⟨⟨_, rfl, ⟨⟨_, rfl, alloc_vec⟩, rfl, rfl⟩⟩, _, rfl, ⟨⟨_, rfl, vec_size⟩, rfl, rfl, rfl, row_one _ _ _⟩⟩) ?_
  refine Walk.step (A := ?Aa0) (o := ?oa0) ?ea0 ?wa0 74 ?da0 (by simp) ?ha0 ?na0
  case ea0 => simp only [List.getElem?_toArray, List.getElem?_cons_succ, List.getElem?_cons_zero]; exact rfl
  case wa0 => exact rfl
  case da0 => exact rfl
  case ha0 =>
    intro W9 hW9
    go_big_quiet_op
    exact rfl
  refine Walk.step (A := ?Aa1) (o := ?oa1) ?ea1 ?wa1 75 ?da1 (by simp) ?ha1 ?na1
  case ea1 => simp only [List.getElem?_toArray, List.getElem?_cons_succ, List.getElem?_cons_zero]; exact rfl
  case wa1 => exact rfl
  case da1 => exact rfl
  case ha1 =>
    intro W9 hW9
    go_big_quiet_op
    exact rfl
  refine Walk.step (A := ?Aa2) (o := ?oa2) ?ea2 ?wa2 76 ?da2 (by simp) ?ha2 ?na2
  case ea2 => simp only [List.getElem?_toArray, List.getElem?_cons_succ, List.getElem?_cons_zero]; exact rfl
  case wa2 => exact rfl
  case da2 => exact rfl
  case ha2 =>
    intro W9 hW9
    have z0 := Ja0.out W9 hW9
    go_big_quiet_op
    exact rfl
  refine Walk.step (A := ?Aa3) (o := ?oa3) ?ea3 ?wa3 77 ?da3 (by simp) ?ha3 ?na3
  case ea3 => simp only [List.getElem?_toArray, List.getElem?_cons_succ, List.getElem?_cons_zero]; exact rfl
  case wa3 => exact rfl
  case da3 => exact rfl
  case ha3 =>
    intro W9 hW9
    go_big_quiet_op
    exact rfl
  refine Walk.step (A := ?Aa4) (o := ?oa4) ?ea4 ?wa4 78 ?da4 (by simp) ?ha4 ?na4
  case ea4 => simp only [List.getElem?_toArray, List.getElem?_cons_succ, List.getElem?_cons_zero]; exact rfl
  case wa4 => exact rfl
  case da4 => exact rfl
  case ha4 =>
    intro W9 hW9
    have z0 := Ja3.out W9 hW9
    go_big_quiet_op
    exact rfl
  refine Walk.step (A := ?Aa5) (o := ?oa5) ?ea5 ?wa5 79 ?da5 (by simp) ?ha5 ?na5
  case ea5 => simp only [List.getElem?_toArray, List.getElem?_cons_succ, List.getElem?_cons_zero]; exact rfl
  case wa5 => exact rfl
  case da5 => exact rfl
  case ha5 =>
    intro W9 hW9
    go_big_quiet_op
    apply Exists.intro
    refine ⟨fun _ => ?_, ?_⟩
    · with_reducible exact Q1.out _ _ _
    exact rfl
  refine Walk.step (A := ?Aa6) (o := ?oa6) ?ea6 ?wa6 80 ?da6 (by simp) ?ha6 ?na6
  case ea6 => simp only [List.getElem?_toArray, List.getElem?_cons_succ, List.getElem?_cons_zero]; exact rfl
  case wa6 => exact rfl
  case da6 => exact rfl
  case ha6 =>
    intro W9 hW9
    go_big_quiet_op
    exact rfl
  refine Walk.step (A := ?Aa7) (o := ?oa7) ?ea7 ?wa7 81 ?da7 (by simp) ?ha7 ?na7
  case ea7 => simp only [List.getElem?_toArray, List.getElem?_cons_succ, List.getElem?_cons_zero]; exact rfl
  case wa7 => exact rfl
  case da7 => exact rfl
  case ha7 =>
    intro W9 hW9
    go_big_quiet_op
    exact rfl
  refine Walk.step (A := ?Aa8) (o := ?oa8) ?ea8 ?wa8 82 ?da8 (by simp) ?ha8 ?na8
  case ea8 => simp only [List.getElem?_toArray, List.getElem?_cons_succ, List.getElem?_cons_zero]; exact rfl
  case wa8 => exact rfl
  case da8 => exact rfl
  case ha8 =>
    intro W9 hW9
    have z0 := Ja1.out W9 hW9
    go_big_quiet_op
    exact rfl
  refine Walk.step (A := ?Aa9) (o := ?oa9) ?ea9 ?wa9 83 ?da9 (by simp) ?ha9 ?na9
  case ea9 => simp only [List.getElem?_toArray, List.getElem?_cons_succ, List.getElem?_cons_zero]; exact rfl
  case wa9 => exact rfl
  case da9 => exact rfl
  case ha9 =>
    intro W9 hW9
    go_big_quiet_op
    exact rfl
  refine Walk.step (A := ?Aa10) (o := ?oa10) ?ea10 ?wa10 84 ?da10 (by simp) ?ha10 ?na10
  case ea10 => simp only [List.getElem?_toArray, List.getElem?_cons_succ, List.getElem?_cons_zero]; exact rfl
  case wa10 => exact rfl
  case da10 => exact rfl
  case ha10 =>
    intro W9 hW9
    have z0 := Ja3.out W9 hW9
    go_big_quiet_op
    exact rfl
  refine Walk.step (A := ?Aa11) (o := ?oa11) ?ea11 ?wa11 85 ?da11 (by simp) ?ha11 ?na11
  case ea11 => simp only [List.getElem?_toArray, List.getElem?_cons_succ, List.getElem?_cons_zero]; exact rfl
  case wa11 => exact rfl
  case da11 => exact rfl
  case ha11 =>
    intro W9 hW9
    go_big_quiet_op
    apply Exists.intro
    refine ⟨fun _ => ?_, ?_⟩
    · with_reducible exact Q2.out _ _ _
    exact rfl
  refine Walk.step (A := ?Aa12) (o := ?oa12) ?ea12 ?wa12 86 ?da12 (by simp) ?ha12 ?na12
  case ea12 => simp only [List.getElem?_toArray, List.getElem?_cons_succ, List.getElem?_cons_zero]; exact rfl
  case wa12 => exact rfl
  case da12 => exact rfl
  case ha12 =>
    intro W9 hW9
    go_big_quiet_op
    exact rfl
  refine Walk.step (A := ?Aa13) (o := ?oa13) ?ea13 ?wa13 87 ?da13 (by simp) ?ha13 ?na13
  case ea13 => simp only [List.getElem?_toArray, List.getElem?_cons_succ, List.getElem?_cons_zero]; exact rfl
  case wa13 => exact rfl
  case da13 => exact rfl
  case ha13 =>
    intro W9 hW9
    go_big_quiet_op
    exact rfl
  refine Walk.step (A := ?Aa14) (o := ?oa14) ?ea14 ?wa14 88 ?da14 (by simp) ?ha14 ?na14
  case ea14 => simp only [List.getElem?_toArray, List.getElem?_cons_succ, List.getElem?_cons_zero]; exact rfl
  case wa14 => exact rfl
  case da14 => exact rfl
  case ha14 =>
    intro W9 hW9
    have z0 := Ja2.out W9 hW9
    go_big_quiet_op
    exact rfl
  refine Walk.step (A := ?Aa15) (o := ?oa15) ?ea15 ?wa15 89 ?da15 (by simp) ?ha15 ?na15
  case ea15 => simp only [List.getElem?_toArray, List.getElem?_cons_succ, List.getElem?_cons_zero]; exact rfl
  case wa15 => exact rfl
  case da15 => exact rfl
  case ha15 =>
    intro W9 hW9
    go_big_quiet_op
    exact rfl
  refine Walk.step (A := ?Aa16) (o := ?oa16) ?ea16 ?wa16 90 ?da16 (by simp) ?ha16 ?na16
  case ea16 => simp only [List.getElem?_toArray, List.getElem?_cons_succ, List.getElem?_cons_zero]; exact rfl
  case wa16 => exact rfl
  case da16 => exact rfl
  case ha16 =>
    intro W9 hW9
    have z0 := Ja3.out W9 hW9
    go_big_quiet_op
    exact rfl
  refine Walk.step (A := ?Aa17) (o := ?oa17) ?ea17 ?wa17 91 ?da17 (by simp) ?ha17 ?na17
  case ea17 => simp only [List.getElem?_toArray, List.getElem?_cons_succ, List.getElem?_cons_zero]; exact rfl
  case wa17 => exact rfl
  case da17 => exact rfl
  case ha17 =>
    intro W9 hW9
    go_big_quiet_op
    apply Exists.intro
    refine ⟨fun _ => ?_, ?_⟩
    · with_reducible exact Q3.out _ _ _
    exact rfl
  refine Walk.step (A := ?Aa18) (o := ?oa18) ?ea18 ?wa18 92 ?da18 (by simp) ?ha18 ?na18
  case ea18 => simp only [List.getElem?_toArray, List.getElem?_cons_succ, List.getElem?_cons_zero]; exact rfl
  case wa18 => exact rfl
  case da18 => exact rfl
  case ha18 =>
    intro W9 hW9
    go_big_quiet_op
    exact rfl
  refine ⟨?_, ?_⟩
  · intro x hx
    simp only [List.mem_cons, List.not_mem_nil, or_false] at hx
    subst hx
    rfl
  intro G hG hne w5 hD5 hk
  have k7 := hk _ (List.mem_cons_self ..)
  dsimp only at k7
  simp only [lay, Act.put, List.setIfInBounds_toArray, List.set_cons_succ, List.set_cons_zero, ptr]
  generalize G 19 = g7 at k7 ⊢
  have H7 := Lib.hid k7
  have HB6 := Lib.hid (HB2.out.trans (hD5.mono HB2.out.size))
  have HZ6 := Lib.hid (vec_step HZ2.out hD5)
  have H6 := Lib.hid (vec_step H5.out hD5)
  clear hG hne hD5 hk k7 Ja0 Ja1 Ja2 Ja3 Q1 Q2 Q3 HB2 HZ2 H5
  go_upto_region 11 with (fail)
  have Jb0 := Lib.hid (fun W9 (hb : Below w5.heap.size w5 W9) => cell_all (vec_step H6.out hb) 0 (.int .i64 x) rfl)
  have Jb1 := Lib.hid (fun W9 (hb : Below w5.heap.size w5 W9) => cell_all (vec_step H6.out hb) 1 (.int .i64 y) rfl)
  have Jb2 := Lib.hid (fun W9 (hb : Below w5.heap.size w5 W9) => cell_all (vec_step H6.out hb) 2 (.int .i64 z) rfl)
  have Jb3 := Lib.hid (fun W9 (hb : Below w5.heap.size w5 W9) => cell_all (vec_step H6.out hb) 3 (.int .i64 r) rfl)
  refine wp_region_free 115 [0, 1, 2, 3, 4, 5, 6, 7, 8, 9, 10, 11, 12, 13, 14, 15, 16, 17, 18] [⟨19, 11, #[.int .i64 0, .int .i64 0, .int .i64 0], 23, 20, 111, #[.int .i64 e4, .int .i64 e5, .int .i64 e6]⟩] (by kernel_rfl) rfl (by kernel_rfl) (by
    intro x hx
    simp only [List.mem_cons, List.not_mem_nil, or_false] at hx
    rcases hx with rfl
    · exact ⟨⟨_, rfl, ⟨⟨_, rfl, alloc_vec⟩, rfl, rfl⟩⟩, _, rfl, ⟨⟨_, rfl, vec_size⟩, rfl, rfl, rfl, row_one _ _ _⟩⟩) ?_
  refine Walk.step (A := ?Ab0) (o := ?ob0) ?eb0 ?wb0 93 ?db0 (by simp) ?hb0 ?nb0
  case eb0 => simp only [List.getElem?_toArray, List.getElem?_cons_succ, List.getElem?_cons_zero]; exact rfl
  case wb0 => exact rfl
  case db0 => exact rfl
  case hb0 =>
    intro W9 hW9
    go_big_quiet_op
    exact rfl
  refine Walk.step (A := ?Ab1) (o := ?ob1) ?eb1 ?wb1 94 ?db1 (by simp) ?hb1 ?nb1
  case eb1 => simp only [List.getElem?_toArray, List.getElem?_cons_succ, List.getElem?_cons_zero]; exact rfl
  case wb1 => exact rfl
  case db1 => exact rfl
  case hb1 =>
    intro W9 hW9
    go_big_quiet_op
    exact rfl
  refine Walk.step (A := ?Ab2) (o := ?ob2) ?eb2 ?wb2 95 ?db2 (by simp) ?hb2 ?nb2
  case eb2 => simp only [List.getElem?_toArray, List.getElem?_cons_succ, List.getElem?_cons_zero]; exact rfl
  case wb2 => exact rfl
  case db2 => exact rfl
  case hb2 =>
    intro W9 hW9
    have z0 := Jb0.out W9 hW9
    go_big_quiet_op
    exact rfl
  refine Walk.step (A := ?Ab3) (o := ?ob3) ?eb3 ?wb3 96 ?db3 (by simp) ?hb3 ?nb3
  case eb3 => simp only [List.getElem?_toArray, List.getElem?_cons_succ, List.getElem?_cons_zero]; exact rfl
  case wb3 => exact rfl
  case db3 => exact rfl
  case hb3 =>
    intro W9 hW9
    go_big_quiet_op
    exact rfl
  refine Walk.step (A := ?Ab4) (o := ?ob4) ?eb4 ?wb4 97 ?db4 (by simp) ?hb4 ?nb4
  case eb4 => simp only [List.getElem?_toArray, List.getElem?_cons_succ, List.getElem?_cons_zero]; exact rfl
  case wb4 => exact rfl
  case db4 => exact rfl
  case hb4 =>
    intro W9 hW9
    have z0 := Jb3.out W9 hW9
    go_big_quiet_op
    exact rfl
  refine Walk.step (A := ?Ab5) (o := ?ob5) ?eb5 ?wb5 98 ?db5 (by simp) ?hb5 ?nb5
  case eb5 => simp only [List.getElem?_toArray, List.getElem?_cons_succ, List.getElem?_cons_zero]; exact rfl
  case wb5 => exact rfl
  case db5 => exact rfl
  case hb5 =>
    intro W9 hW9
    go_big_quiet_op
    apply Exists.intro
    refine ⟨fun _ => ?_, ?_⟩
    · with_reducible exact Q4.out _ _ _
    exact rfl
  refine Walk.step (A := ?Ab6) (o := ?ob6) ?eb6 ?wb6 99 ?db6 (by simp) ?hb6 ?nb6
  case eb6 => simp only [List.getElem?_toArray, List.getElem?_cons_succ, List.getElem?_cons_zero]; exact rfl
  case wb6 => exact rfl
  case db6 => exact rfl
  case hb6 =>
    intro W9 hW9
    go_big_quiet_op
    exact rfl
  refine Walk.step (A := ?Ab7) (o := ?ob7) ?eb7 ?wb7 100 ?db7 (by simp) ?hb7 ?nb7
  case eb7 => simp only [List.getElem?_toArray, List.getElem?_cons_succ, List.getElem?_cons_zero]; exact rfl
  case wb7 => exact rfl
  case db7 => exact rfl
  case hb7 =>
    intro W9 hW9
    go_big_quiet_op
    exact rfl
  refine Walk.step (A := ?Ab8) (o := ?ob8) ?eb8 ?wb8 101 ?db8 (by simp) ?hb8 ?nb8
  case eb8 => simp only [List.getElem?_toArray, List.getElem?_cons_succ, List.getElem?_cons_zero]; exact rfl
  case wb8 => exact rfl
  case db8 => exact rfl
  case hb8 =>
    intro W9 hW9
    have z0 := Jb1.out W9 hW9
    go_big_quiet_op
    exact rfl
  refine Walk.step (A := ?Ab9) (o := ?ob9) ?eb9 ?wb9 102 ?db9 (by simp) ?hb9 ?nb9
  case eb9 => simp only [List.getElem?_toArray, List.getElem?_cons_succ, List.getElem?_cons_zero]; exact rfl
  case wb9 => exact rfl
  case db9 => exact rfl
  case hb9 =>
    intro W9 hW9
    go_big_quiet_op
    exact rfl
  refine Walk.step (A := ?Ab10) (o := ?ob10) ?eb10 ?wb10 103 ?db10 (by simp) ?hb10 ?nb10
  case eb10 => simp only [List.getElem?_toArray, List.getElem?_cons_succ, List.getElem?_cons_zero]; exact rfl
  case wb10 => exact rfl
  case db10 => exact rfl
  case hb10 =>
    intro W9 hW9
    have z0 := Jb3.out W9 hW9
    go_big_quiet_op
    exact rfl
  refine Walk.step (A := ?Ab11) (o := ?ob11) ?eb11 ?wb11 104 ?db11 (by simp) ?hb11 ?nb11
  case eb11 => simp only [List.getElem?_toArray, List.getElem?_cons_succ, List.getElem?_cons_zero]; exact rfl
  case wb11 => exact rfl
  case db11 => exact rfl
  case hb11 =>
    intro W9 hW9
    go_big_quiet_op
    apply Exists.intro
    refine ⟨fun _ => ?_, ?_⟩
    · with_reducible exact Q5.out _ _ _
    exact rfl
  refine Walk.step (A := ?Ab12) (o := ?ob12) ?eb12 ?wb12 105 ?db12 (by simp) ?hb12 ?nb12
  case eb12 => simp only [List.getElem?_toArray, List.getElem?_cons_succ, List.getElem?_cons_zero]; exact rfl
  case wb12 => exact rfl
  case db12 => exact rfl
  case hb12 =>
    intro W9 hW9
    go_big_quiet_op
    exact rfl
  refine Walk.step (A := ?Ab13) (o := ?ob13) ?eb13 ?wb13 106 ?db13 (by simp) ?hb13 ?nb13
  case eb13 => simp only [List.getElem?_toArray, List.getElem?_cons_succ, List.getElem?_cons_zero]; exact rfl
  case wb13 => exact rfl
  case db13 => exact rfl
  case hb13 =>
    intro W9 hW9
    go_big_quiet_op
    exact rfl
  refine Walk.step (A := ?Ab14) (o := ?ob14) ?eb14 ?wb14 107 ?db14 (by simp) ?hb14 ?nb14
  case eb14 => simp only [List.getElem?_toArray, List.getElem?_cons_succ, List.getElem?_cons_zero]; exact rfl
  case wb14 => exact rfl
  case db14 => exact rfl
  case hb14 =>
    intro W9 hW9
    have z0 := Jb2.out W9 hW9
    go_big_quiet_op
    exact rfl
  refine Walk.step (A := ?Ab15) (o := ?ob15) ?eb15 ?wb15 108 ?db15 (by simp) ?hb15 ?nb15
  case eb15 => simp only [List.getElem?_toArray, List.getElem?_cons_succ, List.getElem?_cons_zero]; exact rfl
  case wb15 => exact rfl
  case db15 => exact rfl
  case hb15 =>
    intro W9 hW9
    go_big_quiet_op
    exact rfl
  refine Walk.step (A := ?Ab16) (o := ?ob16) ?eb16 ?wb16 109 ?db16 (by simp) ?hb16 ?nb16
  case eb16 => simp only [List.getElem?_toArray, List.getElem?_cons_succ, List.getElem?_cons_zero]; exact rfl
  case wb16 => exact rfl
  case db16 => exact rfl
  case hb16 =>
    intro W9 hW9
    have z0 := Jb3.out W9 hW9
    go_big_quiet_op
    exact rfl
  refine Walk.step (A := ?Ab17) (o := ?ob17) ?eb17 ?wb17 110 ?db17 (by simp) ?hb17 ?nb17
  case eb17 => simp only [List.getElem?_toArray, List.getElem?_cons_succ, List.getElem?_cons_zero]; exact rfl
  case wb17 => exact rfl
  case db17 => exact rfl
  case hb17 =>
    intro W9 hW9
    go_big_quiet_op
    apply Exists.intro
    refine ⟨fun _ => ?_, ?_⟩
    · with_reducible exact Q6.out _ _ _
    exact rfl
  refine Walk.step (A := ?Ab18) (o := ?ob18) ?eb18 ?wb18 111 ?db18 (by simp) ?hb18 ?nb18
  case eb18 => simp only [List.getElem?_toArray, List.getElem?_cons_succ, List.getElem?_cons_zero]; exact rfl
  case wb18 => exact rfl
  case db18 => exact rfl
  case hb18 =>
    intro W9 hW9
    go_big_quiet_op
    exact rfl
  refine ⟨?_, ?_⟩
  · intro x hx
    simp only [List.mem_cons, List.not_mem_nil, or_false] at hx
    subst hx
    rfl
  intro G hG hne w6 hD6 hk
  have k8 := hk _ (List.mem_cons_self ..)
  dsimp only at k8
  simp only [lay, Act.put, List.setIfInBounds_toArray, List.set_cons_succ, List.set_cons_zero, ptr]
  generalize G 19 = g8 at k8 ⊢
  obtain ⟨u0, u1, u2⟩ := cells_now (vec_step H7.out hD6)
  obtain ⟨u3, u4, u5⟩ := cells_now k8
  have HB9 := Lib.hid (HB6.out.trans (hD6.mono HB6.out.size))
  have HZ9 := Lib.hid (vec_step HZ6.out hD6)
  clear hG hne hD6 hk k8 Jb0 Jb1 Jb2 Jb3 Q4 Q5 Q6 HB6 HZ6 H6 H7
  go_wp2_with (with_reducible refine store_box rfl (.tmp 4) (.tmp 114) rfl rfl (w.heap.size + 1) e1 e2 e3 e4 e5 e6 rfl rfl _ HZ9.out rfl ?_)
  refine bodyPost_ret (results_cell_row rfl _ _ (w.heap.size + 1) 29 _ _ _ rfl (setRow_heap _ (w.heap.size + 1) _ _ _ _ (HZ9.out)) Try.underlying29 rfl box_size) rfl ?_
  exact ⟨rfl, below_setRow HB9.out (by omega) _⟩

theorem rbox_any (v : Value) (m : Msh) (w : World) (hm : IsMesh w v m) (ok : m.ok) (hl : m.ts.length + m.bs.length ≤ 9223372036854775807) (i : Int) (hi : In i) : Calls Try.prog 55 #[v, .int .i64 i] w (VTo (boxV (boxF m i)) w) := by
  have hm0 := hm
  obtain ⟨a0, c0, a1, c1, a2, c2, rfl, h0, h1, h2, l0, l1, l2⟩ := hm.open_
  have CT : Hid (∀ w', Below w.heap.size w w' → Calls Try.prog 61 #[mvals a0 m.ps.length c0 a1 m.ts.length c1 a2 m.bs.length c2] w' (VTo (.int .i64 ((m.ts.length : Int) + (m.bs.length : Int))) w')) := Lib.hid (fun w' hb => by
    have := rcount_any _ m w' (hm0.below hb) hl
    rwa [show ((m.ts.length + m.bs.length : Nat) : Int) = (m.ts.length : Int) + (m.bs.length : Int) from by simp] at this)
  unfold boxF
  by_cases hi0 : i < 0
  · rw [if_pos (.inl hi0)]
    exact rbox_neg w _ _ _ _ _ _ _ _ _ i hi0
  by_cases hi1 : (m.ts.length : Int) + (m.bs.length : Int) ≤ i
  · rw [if_pos (.inr hi1)]
    exact rbox_far w _ _ _ _ _ _ _ _ _ _ rfl CT i (by omega) hi1
  rw [if_neg (by omega)]
  by_cases hi2 : i < (m.ts.length : Int)
  · rw [if_pos hi2]
    obtain ⟨j, rfl⟩ := Int.eq_ofNat_of_zero_le (by omega : 0 ≤ i)
    have hj : j < m.ts.length := by omega
    have e1 : m.ts.getD (j : Int).toNat v0 = m.ts[j] := by simp [hj]
    rw [e1]
    unfold triF
    obtain ⟨⟨x, y, z⟩, ht⟩ : ∃ t, t = m.ts[j] := ⟨_, rfl⟩
    rw [← ht]
    cases hh : hasF m.ps.length ⟨x, y, z⟩
    · simp only [Bool.false_eq_true, if_false]
      exact rbox_hasnt w _ _ _ _ _ _ _ _ _ _ rfl CT m.ts h1 j hj x y z ht.symm l0 hh
    · simp only [if_true]
      have hx := hh
      simp only [hasF, placeI, Bool.and_eq_true, decide_eq_true_eq] at hx
      obtain ⟨⟨⟨x0, x1⟩, y0, y1⟩, z0, z1⟩ := hx
      obtain ⟨x, rfl⟩ := Int.eq_ofNat_of_zero_le x0
      obtain ⟨y, rfl⟩ := Int.eq_ofNat_of_zero_le y0
      obtain ⟨z, rfl⟩ := Int.eq_ofNat_of_zero_le z0
      have hx : x < m.ps.length := by omega
      have hy : y < m.ps.length := by omega
      have hz : z < m.ps.length := by omega
      have := rbox_tri w _ _ _ _ _ _ _ _ _ _ rfl CT m.ts m.ps h1 h0 j hj x y z ht.symm hx hy hz l0 hh
      simpa [ptF, hx, hy, hz] using this
  · rw [if_neg hi2]
    obtain ⟨j, hj⟩ : ∃ j : Nat, (j : Int) = i - (m.ts.length : Int) := ⟨(i - (m.ts.length : Int)).toNat, by omega⟩
    have hjb : j < m.bs.length := by omega
    have e1 : m.bs.getD (i - (m.ts.length : Int)).toNat ⟨v0, 0⟩ = m.bs[j] := by rw [← hj]; simp [hjb]
    rw [e1]
    have hok := ok.bs m.bs[j] (List.getElem_mem hjb)
    obtain ⟨⟨⟨x, y, z⟩, r⟩, hb⟩ : ∃ t, t = m.bs[j] := ⟨_, rfl⟩
    rw [← hb] at hok ⊢
    exact rbox_ball w _ _ _ _ _ _ _ _ _ _ rfl CT m.bs h2 j hjb x y z r hb.symm hok.1.1 hok.1.2.1 hok.1.2.2 hok.2 l1 i hi.2 (by omega)
end Go.Proofs.Ytdmmbhcaejojeaa.MeshR
