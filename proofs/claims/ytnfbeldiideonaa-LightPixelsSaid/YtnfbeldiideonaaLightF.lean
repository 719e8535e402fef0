/- The law LightPixels. -/
import Derived.Test.YtnfbeldiideonaaLightE
set_option linter.unusedVariables false
set_option linter.unusedSimpArgs false
namespace Go.Proofs.Ytnfbeldiideonaa.LightF
open Go.RowKit Go.Sort FixM Base Num FixW FixV FixU FixT FixS FixO FixN FixK FixP Qb Qt VecW VecV VecU LightM LightW LightQ LightK Qa LightC LightP LightD LightB LightE ArrF

abbrev box4 (a b c d : Int) : Obj := .cells #[.int .u8 a, .int .u8 b, .int .u8 c, .int .u8 d] 24
theorem alloc_b4 (w : World) : (Instr.alloc 24 true (.tuple #[])).run Try.prog w = .ok (.pointer (some ⟨w.heap.size, 0, none⟩)) (w.alloc (box4 0 0 0 0)) := by kernel_rfl
theorem in_min {a b : Int} (ha : In a) (hb : In b) : In (min a b) := by unfold In at *; omega
theorem in_max {a b : Int} (ha : In a) (hb : In b) : In (max a b) := by unfold In at *; omega
theorem pix_le (n x y : Int) : decide (pixL (min x y) n > pixL (max x y) n) = false := by
  apply decide_eq_false
  have := pixL_mono n (show min x y ≤ max x y by omega)
  omega
theorem in_alike {n c : Int} (h1 : 1 ≤ n) (h2 : n ≤ 64) (h3 : 0 ≤ c) (h4 : c ≤ 4294967296) : In (n * c) ∧ IntKind.i64.wrap (n * c) = n * c := by
  have hb : 0 ≤ n * c ∧ n * c ≤ 274877906944 := by
    have e1 : 0 ≤ n * c := Int.mul_nonneg (by omega) h3
    have e2 : n * c ≤ 64 * 4294967296 := Int.mul_le_mul h2 h4 h3 (by decide)
    omega
  generalize n * c = p at *
  refine ⟨by unfold In; omega, ?_⟩
  show (if IntKind.i64.signed && decide (p % 18446744073709551616 ≥ 9223372036854775808) then p % 18446744073709551616 - 18446744073709551616 else p % 18446744073709551616) = p
  simp [IntKind.signed]; omega

set_option maxRecDepth 100000 in
set_option maxHeartbeats 8000000 in
theorem pixels_any (a b : V3) (s : Int) (ha : a.ok) (hb : b.ok) (hs : In s) (w : World) : Calls Try.prog 3 #[vecV a, vecV b, .int .i64 s] w fun e w' => e = .returned (.bool true) ∧ Below w.heap.size w w' := by
  obtain ⟨ax, ay, az⟩ := a
  obtain ⟨bx, by', bz⟩ := b
  obtain ⟨ha1, ha2, ha3⟩ := ha
  obtain ⟨hb1, hb2, hb3⟩ := hb
  have ht1 : Int.tmod s 64 < 64 := Int.tmod_lt_of_pos s (by decide)
  have ht2 : -64 < Int.tmod s 64 := Int.lt_tmod_of_pos s (by decide)
  obtain ⟨t, ht⟩ : ∃ t, t = Int.tmod s 64 := ⟨_, rfl⟩
  rw [← ht] at ht1 ht2
  have HT := Lib.hid ht
  clear ht
  have A1 := Lib.hid awake_any
  have Q1 := Lib.hid (fun n hn W => qb (P := Try.prog) (W := W) (fun w2 _ => lpixel_any ⟨min ax bx, min ay by', min az bz⟩ n ⟨in_min ha1 hb1, in_min ha2 hb2, in_min ha3 hb3⟩ hn w2))
  have Q2 := Lib.hid (fun n hn W => qb (P := Try.prog) (W := W) (fun w2 _ => lpixel_any ⟨max ax bx, max ay by', max az bz⟩ n ⟨in_max ha1 hb1, in_max ha2 hb2, in_max ha3 hb3⟩ hn w2))
  have C1 := Lib.hid (fun w => lclamp_any ⟨ax, ay, az⟩ ⟨ha1, ha2, ha3⟩ w)
  have okc : ∀ x, In (clampL x) := in_clampL
  have Q3 := Lib.hid (fun W => qb (P := Try.prog) (W := W) (fun w2 _ => (by have := lclamp_any ⟨clampL ax, clampL ay, clampL az⟩ ⟨okc _, okc _, okc _⟩ w2; simp only [map1, clampL_twice] at this; exact this : Calls Try.prog 6 #[vecV ⟨clampL ax, clampL ay, clampL az⟩] w2 (VTo (vecV ⟨clampL ax, clampL ay, clampL az⟩) w2))))
  have Q4 := Lib.hid (fun W => qb (P := Try.prog) (W := W) (fun w2 _ => lpixel_any ⟨clampL ax, clampL ay, clampL az⟩ 1 ⟨okc _, okc _, okc _⟩ (by unfold In; omega) w2))
  have Q5 := Lib.hid (fun n (hn : 1 ≤ n ∧ n ≤ 64) W => qb (P := Try.prog) (W := W) (fun w2 _ => (by
    have := lpixel_any ⟨n * clampL ax, n * clampL ay, n * clampL az⟩ n ⟨(in_alike hn.1 hn.2 (clampL_in _).1 (clampL_in _).2).1, (in_alike hn.1 hn.2 (clampL_in _).1 (clampL_in _).2).1, (in_alike hn.1 hn.2 (clampL_in _).1 (clampL_in _).2).1⟩ (by unfold In; omega) w2
    simp only [bytes4, pixL_alike (clampL_in _).1 (clampL_in _).2 hn.1 hn.2] at this
    exact this : Calls Try.prog 5 #[vecV ⟨n * clampL ax, n * clampL ay, n * clampL az⟩, .int .i64 n] w2 (VTo (.agg #[.int .u8 (pixL (clampL ax) 1), .int .u8 (pixL (clampL ay) 1), .int .u8 (pixL (clampL az) 1), .int .u8 255]) w2))))
  have Q6 := Lib.hid (fun W => qb (P := Try.prog) (W := W) (fun w2 _ => awake_any w2))
  have WX := Lib.hid (fun n (hn : 1 ≤ n ∧ n ≤ 64) => (in_alike hn.1 hn.2 (clampL_in ax).1 (clampL_in ax).2).2)
  have WY := Lib.hid (fun n (hn : 1 ≤ n ∧ n ≤ 64) => (in_alike hn.1 hn.2 (clampL_in ay).1 (clampL_in ay).2).2)
  have WZ := Lib.hid (fun n (hn : 1 ≤ n ∧ n ≤ 64) => (in_alike hn.1 hn.2 (clampL_in az).1 (clampL_in az).2).2)
  have DX := clampL_in ax
  have DY := clampL_in ay
  have DZ := clampL_in az
  have PX := fun n => pix_le n ax bx
  have PY := fun n => pix_le n ay by'
  have PZ := fun n => pix_le n az bz
  obtain ⟨lx, hlx⟩ : ∃ l, l = min ax bx := ⟨_, rfl⟩
  obtain ⟨mx, hmx⟩ : ∃ l, l = max ax bx := ⟨_, rfl⟩
  obtain ⟨cx, hcx⟩ : ∃ l, l = clampL ax := ⟨_, rfl⟩
  obtain ⟨ly, hly⟩ : ∃ l, l = min ay by' := ⟨_, rfl⟩
  obtain ⟨my, hmy⟩ : ∃ l, l = max ay by' := ⟨_, rfl⟩
  obtain ⟨cy, hcy⟩ : ∃ l, l = clampL ay := ⟨_, rfl⟩
  obtain ⟨lz, hlz⟩ : ∃ l, l = min az bz := ⟨_, rfl⟩
  obtain ⟨mz, hmz⟩ : ∃ l, l = max az bz := ⟨_, rfl⟩
  obtain ⟨cz, hcz⟩ : ∃ l, l = clampL az := ⟨_, rfl⟩
  simp only [map1] at C1
  rw [← hlx, ← hly, ← hlz] at Q1
  rw [← hmx, ← hmy, ← hmz] at Q2
  rw [← hlx, ← hmx] at PX
  rw [← hly, ← hmy] at PY
  rw [← hlz, ← hmz] at PZ
  rw [← hcx, ← hcy, ← hcz] at C1 Q3 Q4 Q5
  rw [← hcx] at DX WX
  rw [← hcy] at DY WY
  rw [← hcz] at DZ WZ
  have HPX := Lib.hid PX
  have HPY := Lib.hid PY
  have HPZ := Lib.hid PZ
  have e1 : decide (cx < 0) = false := decide_eq_false (by omega)
  have e2 : decide (4294967296 < cx) = false := decide_eq_false (by omega)
  have e3 : decide (cy < 0) = false := decide_eq_false (by omega)
  have e4 : decide (4294967296 < cy) = false := decide_eq_false (by omega)
  have e5 : decide (cz < 0) = false := decide_eq_false (by omega)
  have e6 : decide (4294967296 < cz) = false := decide_eq_false (by omega)
  obtain ⟨W, hW⟩ : ∃ W, W = (w.alloc (box3 ⟨ax, ay, az⟩)).alloc (box3 ⟨bx, by', bz⟩) := ⟨_, rfl⟩
  have H0 := Lib.hid (show W.heap[w.heap.size]? = some (box3 ⟨ax, ay, az⟩) by rw [hW]; exact alloc2_0 _ _ _)
  have H1 := Lib.hid (show W.heap[w.heap.size + 1]? = some (box3 ⟨bx, by', bz⟩) by rw [hW]; exact alloc2_1 _ _ _)
  have HB := Lib.hid (show Below w.heap.size w W by rw [hW]; exact alloc2_below _ _ _)
  have HWW := Lib.hid hW
  have LX := Lib.hid hlx.symm
  have LY := Lib.hid hly.symm
  have LZ := Lib.hid hlz.symm
  have MX := Lib.hid hmx.symm
  have MY := Lib.hid hmy.symm
  have MZ := Lib.hid hmz.symm
  clear hW hlx hly hlz hmx hmy hmz hcx hcy hcz DX DY DZ PX PY PZ okc ha1 ha2 ha3 hb1 hb2 hb3
  have EQ := eq4
  by_cases h : t + 1 < 1
  · have d1 : decide (t + 1 < 1) = true := decide_eq_true h
    go_enter Try.func3, Try.ntmps3
    have ht := HT.out.symm
    obtain ⟨n, hn⟩ : ∃ n, n = t + 1 + 63 := ⟨_, rfl⟩
    go_upto_region 4 with (fail)
    rw [← hn]
    rw [← HWW.out]
    have hn12 : 1 ≤ n ∧ n ≤ 64 := by omega
    have hin : In n := by unfold In; omega
    have HN := Lib.hid hn
    clear HWW d1 h ht1 ht2 hn
    clear HT ht hs
    have q1 := Q1.out n hin
    have q2 := Q2.out n hin
    have q5 := Q5.out n hn12
    have HQ1 := Lib.hid q1
    have HQ2 := Lib.hid q2
    have HQ5 := Lib.hid q5
    have wx := WX.out n hn12
    have wy := WY.out n hn12
    have wz := WZ.out n hn12
    have px := HPX.out n
    have py := HPY.out n
    have pz := HPZ.out n
    clear q1 q2 q5 Q1 Q2 Q5 WX WY WZ HPX HPY HPZ hn12 hin
    simp only [bytes4] at HQ1 HQ2
    obtain ⟨px', hpx⟩ : ∃ p, p = pixL lx n := ⟨_, rfl⟩
    obtain ⟨rx', hrx⟩ : ∃ p, p = pixL mx n := ⟨_, rfl⟩
    obtain ⟨py', hpy⟩ : ∃ p, p = pixL ly n := ⟨_, rfl⟩
    obtain ⟨ry', hry⟩ : ∃ p, p = pixL my n := ⟨_, rfl⟩
    obtain ⟨pz', hpz⟩ : ∃ p, p = pixL lz n := ⟨_, rfl⟩
    obtain ⟨rz', hrz⟩ : ∃ p, p = pixL mz n := ⟨_, rfl⟩
    rw [← hpx, ← hpy, ← hpz] at HQ1
    rw [← hrx, ← hry, ← hrz] at HQ2
    rw [← hpx, ← hrx] at px
    rw [← hpy, ← hry] at py
    rw [← hpz, ← hrz] at pz
    clear hpx hpy hpz hrx hry hrz
    obtain ⟨a0, a1, a2⟩ := cells_now H0.out
    obtain ⟨b0, b1, b2⟩ := cells_now H1.out
    have lx1 := LX.out
    have ly1 := LY.out
    have lz1 := LZ.out
    obtain ⟨W1, hW1⟩ : ∃ V, V = (W.alloc (box3 ⟨0, 0, 0⟩)).setRow W.heap.size #[.int .i64 lx, .int .i64 ly, .int .i64 lz] := ⟨_, rfl⟩
    have L1 := Lib.hid (show W1.heap[W.heap.size]? = some (box3 ⟨lx, ly, lz⟩) by rw [hW1]; exact put3_row _ _ _ _)
    have hxW1 : Below W.heap.size W W1 := by rw [hW1]; exact put3_ext _ _ _ _
    have HB1 := Lib.hid (HB.out.trans (hxW1.mono HB.out.size))
    have J0 := Lib.hid (vec_step H0.out hxW1)
    have J1 := Lib.hid (vec_step H1.out hxW1)
    have HHW1 := Lib.hid hW1
    clear hW1 hxW1 HB H0 H1
    go_upto_region 5 with (with_reducible refine store_vec rfl (.tmp 8) (.tmp 36) rfl rfl W.heap.size lx ly lz rfl rfl _ _ _ (heap_alloc_new _ _) ?_)
    rw [← HHW1.out]
    clear HHW1
    clear a0 a1 a2 b0 b1 b2 lx1 ly1 lz1
    generalize W.heap.size = g8 at *
    clear W
    obtain ⟨a0, a1, a2⟩ := cells_now J0.out
    obtain ⟨b0, b1, b2⟩ := cells_now J1.out
    have mx1 := MX.out
    have my1 := MY.out
    have mz1 := MZ.out
    obtain ⟨W2, hW2⟩ : ∃ V, V = (W1.alloc (box3 ⟨0, 0, 0⟩)).setRow W1.heap.size #[.int .i64 mx, .int .i64 my, .int .i64 mz] := ⟨_, rfl⟩
    have M2 := Lib.hid (show W2.heap[W1.heap.size]? = some (box3 ⟨mx, my, mz⟩) by rw [hW2]; exact put3_row _ _ _ _)
    have hxW2 : Below W1.heap.size W1 W2 := by rw [hW2]; exact put3_ext _ _ _ _
    have HB2 := Lib.hid (HB1.out.trans (hxW2.mono HB1.out.size))
    have K0 := Lib.hid (vec_step J0.out hxW2)
    have L2 := Lib.hid (vec_step L1.out hxW2)
    have HHW2 := Lib.hid hW2
    clear hW2 hxW2 HB1 J0 L1
    go_upto_region 6 with (with_reducible refine store_vec rfl (.tmp 9) (.tmp 52) rfl rfl W1.heap.size mx my mz rfl rfl _ _ _ (heap_alloc_new _ _) ?_)
    rw [← HHW2.out]
    clear HHW2
    clear a0 a1 a2 b0 b1 b2 mx1 my1 mz1 J1
    generalize W1.heap.size = g9 at *
    clear W1
    refine wp_region_allocs 8 [0, 1, 2, 3, 4, 5] [(6, 10, box4 0 0 0 0), (7, 11, box4 0 0 0 0)] (by kernel_rfl) (by kernel_rfl) (by
      intro x hx
      simp only [List.mem_cons, List.not_mem_nil, or_false] at hx
      rcases hx with rfl | rfl
      · exact ⟨by decide, _, rfl, ⟨⟨_, rfl, alloc_b4⟩, rfl, rfl⟩⟩
      · exact ⟨by decide, _, rfl, ⟨⟨_, rfl, alloc_b4⟩, rfl, rfl⟩⟩) (by decide) (by decide) ?_
    refine Walk.step (A := ?A1) (o := ?o1) ?e1 ?w1 53 ?d1 (by simp) ?h1 ?n1
    case e1 => simp only [List.getElem?_toArray, List.getElem?_cons_succ, List.getElem?_cons_zero]; exact rfl
    case w1 => exact rfl
    case d1 => exact rfl
    case h1 =>
      intro W9 hW9
      obtain ⟨e0, e1, e2⟩ := cells3 ((hW9.block _ (lt_of_heap L2.out)).trans L2.out)
      go_big_quiet_op
      exact rfl
    refine Walk.step (A := ?A2) (o := ?o2) ?e2 ?w2 54 ?d2 (by simp) ?h2 ?n2
    case e2 => simp only [List.getElem?_toArray, List.getElem?_cons_succ, List.getElem?_cons_zero]; exact rfl
    case w2 => exact rfl
    case d2 => exact rfl
    case h2 =>
      intro W9 hW9
      go_big_quiet_op
      exact rfl
    refine Walk.step (A := ?A3) (o := ?o3) ?e3 ?w3 55 ?d3 (by simp) ?h3 ?n3
    case e3 => simp only [List.getElem?_toArray, List.getElem?_cons_succ, List.getElem?_cons_zero]; exact rfl
    case w3 => exact rfl
    case d3 => exact rfl
    case h3 =>
      intro W9 hW9
      go_big_quiet_op
      apply Exists.intro
      refine ⟨fun _ => ?_, ?_⟩
      · with_reducible exact HQ1.out _ _ _
      · exact rfl
    refine Walk.step (A := ?A4) (o := ?o4) ?e4 ?w4 56 ?d4 (by simp) ?h4 ?n4
    case e4 => simp only [List.getElem?_toArray, List.getElem?_cons_succ, List.getElem?_cons_zero]; exact rfl
    case w4 => exact rfl
    case d4 => exact rfl
    case h4 =>
      intro W9 hW9
      obtain ⟨e0, e1, e2⟩ := cells3 ((hW9.block _ (lt_of_heap M2.out)).trans M2.out)
      go_big_quiet_op
      exact rfl
    refine Walk.step (A := ?A5) (o := ?o5) ?e5 ?w5 57 ?d5 (by simp) ?h5 ?n5
    case e5 => simp only [List.getElem?_toArray, List.getElem?_cons_succ, List.getElem?_cons_zero]; exact rfl
    case w5 => exact rfl
    case d5 => exact rfl
    case h5 =>
      intro W9 hW9
      go_big_quiet_op
      exact rfl
    refine Walk.step (A := ?A6) (o := ?o6) ?e6 ?w6 58 ?d6 (by simp) ?h6 ?n6
    case e6 => simp only [List.getElem?_toArray, List.getElem?_cons_succ, List.getElem?_cons_zero]; exact rfl
    case w6 => exact rfl
    case d6 => exact rfl
    case h6 =>
      intro W9 hW9
      go_big_quiet_op
      apply Exists.intro
      refine ⟨fun _ => ?_, ?_⟩
      · with_reducible exact HQ2.out _ _ _
      · exact rfl
    simp only [Walk, All]
    intro g10 hg10 hf10 g11 hg11 hf11 w2 hD2
    have hne : g10 ≠ g11 := hf11 (g10, box4 0 0 0 0) (by simp)
    have k10 : w2.heap[g10]? = some (box4 0 0 0 0) := hD2.2 (g10, box4 0 0 0 0) (by simp)
    have k11 : w2.heap[g11]? = some (box4 0 0 0 0) := hD2.2 (g11, box4 0 0 0 0) (by simp)
    have K1 := Lib.hid (vec_step K0.out hD2.1)
    have hB3 : Below w.heap.size w w2 := HB2.out.trans (hD2.1.mono HB2.out.size)
    have hs10 : w.heap.size < g10 := Nat.lt_of_lt_of_le (lt_of_heap K0.out) hg10
    have hs11 : w.heap.size < g11 := Nat.lt_of_lt_of_le (lt_of_heap K0.out) hg11
    clear hf10 hf11 hD2 hg10 hg11 K0 HB2 L2 M2 HQ1 HQ2
    simp only [List.drop_succ_cons, List.drop_zero, Act.put, List.setIfInBounds_toArray, List.set_cons_succ, List.set_cons_zero, ptr]
    refine store_b4 rfl (.tmp 10) (.tmp 55) rfl rfl g10 px' py' pz' 255 rfl rfl _ _ _ _ k10 ?_
    have k11' : (w2.setRow g10 #[.int .u8 px', .int .u8 py', .int .u8 pz', .int .u8 255]).heap[g11]? = some (box4 0 0 0 0) := by rw [setRow_other _ _ _ _ (Ne.symm hne)]; exact k11
    refine store_b4 rfl (.tmp 11) (.tmp 58) rfl rfl g11 rx' ry' rz' 255 rfl rfl _ _ _ _ k11' ?_
    have P5 := Lib.hid ((setRow_other (w2.setRow g10 #[.int .u8 px', .int .u8 py', .int .u8 pz', .int .u8 255]) g11 g10 #[.int .u8 rx', .int .u8 ry', .int .u8 rz', .int .u8 255] hne).trans (setRow_heap _ _ _ _ _ _ k10))
    have P6 := Lib.hid (setRow_heap _ g11 _ #[.int .u8 rx', .int .u8 ry', .int .u8 rz', .int .u8 255] _ _ k11')
    have HB3 := Lib.hid (below_setRow (below_setRow hB3 (Nat.le_of_lt hs10) #[.int .u8 px', .int .u8 py', .int .u8 pz', .int .u8 255]) (Nat.le_of_lt hs11) #[.int .u8 rx', .int .u8 ry', .int .u8 rz', .int .u8 255])
    have K2 := Lib.hid (((setRow_other (w2.setRow g10 #[.int .u8 px', .int .u8 py', .int .u8 pz', .int .u8 255]) g11 w.heap.size #[.int .u8 rx', .int .u8 ry', .int .u8 rz', .int .u8 255] (by omega)).trans (setRow_other w2 g10 w.heap.size #[.int .u8 px', .int .u8 py', .int .u8 pz', .int .u8 255] (by omega))).trans K1.out)
    clear k10 k11 k11' hB3 hs10 hs11 hne K1
    generalize (w2.setRow g10 _).setRow g11 _ = W3 at *
    have u0 := cell_row P5.out 0 _ rfl
    have u1 := cell_row P5.out 1 _ rfl
    have u2 := cell_row P5.out 2 _ rfl
    have u3 := cell_row P5.out 3 _ rfl
    have v0 := cell_row P6.out 0 _ rfl
    have v1 := cell_row P6.out 1 _ rfl
    have v2 := cell_row P6.out 2 _ rfl
    have v3 := cell_row P6.out 3 _ rfl
    obtain ⟨a0, a1, a2⟩ := cells_now K2.out
    go_wp2_with fail
    clear u0 u1 u2 u3 v0 v1 v2 v3 a0 a1 a2
    refine (C1.out _).mono ?_
    rintro e W4 ⟨rfl, hb4⟩
    have HB4 := Lib.hid (HB3.out.trans (hb4.mono HB3.out.size))
    clear hb4 HB3 P5 P6 K2 C1
    obtain ⟨W5, hW5⟩ : ∃ V, V = (W4.alloc (box3 ⟨0, 0, 0⟩)).setRow W4.heap.size #[.int .i64 cx, .int .i64 cy, .int .i64 cz] := ⟨_, rfl⟩
    have N5 := Lib.hid (show W5.heap[W4.heap.size]? = some (box3 ⟨cx, cy, cz⟩) by rw [hW5]; exact put3_row _ _ _ _)
    have hxW5 : Below W4.heap.size W4 W5 := by rw [hW5]; exact put3_ext _ _ _ _
    have HB5 := Lib.hid (HB4.out.trans (hxW5.mono HB4.out.size))
    have HHW5 := Lib.hid hW5
    clear hW5 hxW5 HB4
    go_upto_region 10 with (with_reducible refine store_vec rfl (.tmp 12) (.tmp 89) rfl rfl W4.heap.size cx cy cz rfl rfl _ _ _ (heap_alloc_new _ _) ?_)
    rw [← HHW5.out]
    clear HHW5
    generalize W4.heap.size = g12 at *
    clear W4
    obtain ⟨n0, n1, n2⟩ := cells3 N5.out
    refine wp_region_quiet_below (by kernel_rfl) (by kernel_rfl) ?_
    repeat (go_big_quiet_step (first | (with_reducible exact Q3.out _ _ _)))
    refine wpQuiet_nil ?_
    rintro _ ⟨⟨dq, osq⟩, rfl⟩
    clear n0 n1 n2 Q3
    have N6 := Lib.hid (heap_regrown N5.out dq osq)
    have HB6 := Lib.hid (HB5.out.trans ((below_regrown W5 dq osq).mono HB5.out.size))
    clear N5 HB5
    generalize grow (redrawn W5 dq) osq = W6 at *
    go_upto_region 13 with (fail)
    obtain ⟨n0, n1, n2⟩ := cells3 N6.out
    refine wp_region_quiet_below (by kernel_rfl) (by kernel_rfl) ?_
    repeat (go_big_quiet_step (first | (with_reducible exact Q4.out _ _ _) | (with_reducible exact HQ5.out _ _ _) | (with_reducible exact Q6.out _ _ _)))
    refine wpQuiet_nil ?_
    rintro _ ⟨⟨dq, osq⟩, rfl⟩
    have HB7 := Lib.hid (HB6.out.trans ((below_regrown W6 dq osq).mono HB6.out.size))
    go_wp2_with fail
    go_ret
    exact ⟨rfl, HB7.out⟩
  · have d1 : decide (t + 1 < 1) = false := decide_eq_false h
    go_enter Try.func3, Try.ntmps3
    have ht := HT.out.symm
    obtain ⟨n, hn⟩ : ∃ n, n = t + 1 := ⟨_, rfl⟩
    go_upto_region 4 with (fail)
    rw [← hn]
    rw [← HWW.out]
    have hn12 : 1 ≤ n ∧ n ≤ 64 := by omega
    have hin : In n := by unfold In; omega
    have HN := Lib.hid hn
    clear HWW d1 h ht1 ht2 hn
    clear HT ht hs
    have q1 := Q1.out n hin
    have q2 := Q2.out n hin
    have q5 := Q5.out n hn12
    have HQ1 := Lib.hid q1
    have HQ2 := Lib.hid q2
    have HQ5 := Lib.hid q5
    have wx := WX.out n hn12
    have wy := WY.out n hn12
    have wz := WZ.out n hn12
    have px := HPX.out n
    have py := HPY.out n
    have pz := HPZ.out n
    clear q1 q2 q5 Q1 Q2 Q5 WX WY WZ HPX HPY HPZ hn12 hin
    simp only [bytes4] at HQ1 HQ2
    obtain ⟨px', hpx⟩ : ∃ p, p = pixL lx n := ⟨_, rfl⟩
    obtain ⟨rx', hrx⟩ : ∃ p, p = pixL mx n := ⟨_, rfl⟩
    obtain ⟨py', hpy⟩ : ∃ p, p = pixL ly n := ⟨_, rfl⟩
    obtain ⟨ry', hry⟩ : ∃ p, p = pixL my n := ⟨_, rfl⟩
    obtain ⟨pz', hpz⟩ : ∃ p, p = pixL lz n := ⟨_, rfl⟩
    obtain ⟨rz', hrz⟩ : ∃ p, p = pixL mz n := ⟨_, rfl⟩
    rw [← hpx, ← hpy, ← hpz] at HQ1
    rw [← hrx, ← hry, ← hrz] at HQ2
    rw [← hpx, ← hrx] at px
    rw [← hpy, ← hry] at py
    rw [← hpz, ← hrz] at pz
    clear hpx hpy hpz hrx hry hrz
    obtain ⟨a0, a1, a2⟩ := cells_now H0.out
    obtain ⟨b0, b1, b2⟩ := cells_now H1.out
    have lx1 := LX.out
    have ly1 := LY.out
    have lz1 := LZ.out
    obtain ⟨W1, hW1⟩ : ∃ V, V = (W.alloc (box3 ⟨0, 0, 0⟩)).setRow W.heap.size #[.int .i64 lx, .int .i64 ly, .int .i64 lz] := ⟨_, rfl⟩
    have L1 := Lib.hid (show W1.heap[W.heap.size]? = some (box3 ⟨lx, ly, lz⟩) by rw [hW1]; exact put3_row _ _ _ _)
    have hxW1 : Below W.heap.size W W1 := by rw [hW1]; exact put3_ext _ _ _ _
    have HB1 := Lib.hid (HB.out.trans (hxW1.mono HB.out.size))
    have J0 := Lib.hid (vec_step H0.out hxW1)
    have J1 := Lib.hid (vec_step H1.out hxW1)
    have HHW1 := Lib.hid hW1
    clear hW1 hxW1 HB H0 H1
    go_upto_region 5 with (with_reducible refine store_vec rfl (.tmp 8) (.tmp 36) rfl rfl W.heap.size lx ly lz rfl rfl _ _ _ (heap_alloc_new _ _) ?_)
    rw [← HHW1.out]
    clear HHW1
    clear a0 a1 a2 b0 b1 b2 lx1 ly1 lz1
    generalize W.heap.size = g8 at *
    clear W
    obtain ⟨a0, a1, a2⟩ := cells_now J0.out
    obtain ⟨b0, b1, b2⟩ := cells_now J1.out
    have mx1 := MX.out
    have my1 := MY.out
    have mz1 := MZ.out
    obtain ⟨W2, hW2⟩ : ∃ V, V = (W1.alloc (box3 ⟨0, 0, 0⟩)).setRow W1.heap.size #[.int .i64 mx, .int .i64 my, .int .i64 mz] := ⟨_, rfl⟩
    have M2 := Lib.hid (show W2.heap[W1.heap.size]? = some (box3 ⟨mx, my, mz⟩) by rw [hW2]; exact put3_row _ _ _ _)
    have hxW2 : Below W1.heap.size W1 W2 := by rw [hW2]; exact put3_ext _ _ _ _
    have HB2 := Lib.hid (HB1.out.trans (hxW2.mono HB1.out.size))
    have K0 := Lib.hid (vec_step J0.out hxW2)
    have L2 := Lib.hid (vec_step L1.out hxW2)
    have HHW2 := Lib.hid hW2
    clear hW2 hxW2 HB1 J0 L1
    go_upto_region 6 with (with_reducible refine store_vec rfl (.tmp 9) (.tmp 52) rfl rfl W1.heap.size mx my mz rfl rfl _ _ _ (heap_alloc_new _ _) ?_)
    rw [← HHW2.out]
    clear HHW2
    clear a0 a1 a2 b0 b1 b2 mx1 my1 mz1 J1
    generalize W1.heap.size = g9 at *
    clear W1
    refine wp_region_allocs 8 [0, 1, 2, 3, 4, 5] [(6, 10, box4 0 0 0 0), (7, 11, box4 0 0 0 0)] (by kernel_rfl) (by kernel_rfl) (by
      intro x hx
      simp only [List.mem_cons, List.not_mem_nil, or_false] at hx
      rcases hx with rfl | rfl
      · exact ⟨by decide, _, rfl, ⟨⟨_, rfl, alloc_b4⟩, rfl, rfl⟩⟩
      · exact ⟨by decide, _, rfl, ⟨⟨_, rfl, alloc_b4⟩, rfl, rfl⟩⟩) (by decide) (by decide) ?_
    refine Walk.step (A := ?A51) (o := ?o51) ?e51 ?w51 53 ?d51 (by simp) ?h51 ?n51
    case e51 => simp only [List.getElem?_toArray, List.getElem?_cons_succ, List.getElem?_cons_zero]; exact rfl
    case w51 => exact rfl
    case d51 => exact rfl
    case h51 =>
      intro W9 hW9
      obtain ⟨e0, e1, e2⟩ := cells3 ((hW9.block _ (lt_of_heap L2.out)).trans L2.out)
      go_big_quiet_op
      exact rfl
    refine Walk.step (A := ?A52) (o := ?o52) ?e52 ?w52 54 ?d52 (by simp) ?h52 ?n52
    case e52 => simp only [List.getElem?_toArray, List.getElem?_cons_succ, List.getElem?_cons_zero]; exact rfl
    case w52 => exact rfl
    case d52 => exact rfl
    case h52 =>
      intro W9 hW9
      go_big_quiet_op
      exact rfl
    refine Walk.step (A := ?A53) (o := ?o53) ?e53 ?w53 55 ?d53 (by simp) ?h53 ?n53
    case e53 => simp only [List.getElem?_toArray, List.getElem?_cons_succ, List.getElem?_cons_zero]; exact rfl
    case w53 => exact rfl
    case d53 => exact rfl
    case h53 =>
      intro W9 hW9
      go_big_quiet_op
      apply Exists.intro
      refine ⟨fun _ => ?_, ?_⟩
      · with_reducible exact HQ1.out _ _ _
      · exact rfl
    refine Walk.step (A := ?A54) (o := ?o54) ?e54 ?w54 56 ?d54 (by simp) ?h54 ?n54
    case e54 => simp only [List.getElem?_toArray, List.getElem?_cons_succ, List.getElem?_cons_zero]; exact rfl
    case w54 => exact rfl
    case d54 => exact rfl
    case h54 =>
      intro W9 hW9
      obtain ⟨e0, e1, e2⟩ := cells3 ((hW9.block _ (lt_of_heap M2.out)).trans M2.out)
      go_big_quiet_op
      exact rfl
    refine Walk.step (A := ?A55) (o := ?o55) ?e55 ?w55 57 ?d55 (by simp) ?h55 ?n55
    case e55 => simp only [List.getElem?_toArray, List.getElem?_cons_succ, List.getElem?_cons_zero]; exact rfl
    case w55 => exact rfl
    case d55 => exact rfl
    case h55 =>
      intro W9 hW9
      go_big_quiet_op
      exact rfl
    refine Walk.step (A := ?A56) (o := ?o56) ?e56 ?w56 58 ?d56 (by simp) ?h56 ?n56
    case e56 => simp only [List.getElem?_toArray, List.getElem?_cons_succ, List.getElem?_cons_zero]; exact rfl
    case w56 => exact rfl
    case d56 => exact rfl
    case h56 =>
      intro W9 hW9
      go_big_quiet_op
      apply Exists.intro
      refine ⟨fun _ => ?_, ?_⟩
      · with_reducible exact HQ2.out _ _ _
      · exact rfl
    simp only [Walk, All]
    intro g10 hg10 hf10 g11 hg11 hf11 w2 hD2
    have hne : g10 ≠ g11 := hf11 (g10, box4 0 0 0 0) (by simp)
    have k10 : w2.heap[g10]? = some (box4 0 0 0 0) := hD2.2 (g10, box4 0 0 0 0) (by simp)
    have k11 : w2.heap[g11]? = some (box4 0 0 0 0) := hD2.2 (g11, box4 0 0 0 0) (by simp)
    have K1 := Lib.hid (vec_step K0.out hD2.1)
    have hB3 : Below w.heap.size w w2 := HB2.out.trans (hD2.1.mono HB2.out.size)
    have hs10 : w.heap.size < g10 := Nat.lt_of_lt_of_le (lt_of_heap K0.out) hg10
    have hs11 : w.heap.size < g11 := Nat.lt_of_lt_of_le (lt_of_heap K0.out) hg11
    clear hf10 hf11 hD2 hg10 hg11 K0 HB2 L2 M2 HQ1 HQ2
    simp only [List.drop_succ_cons, List.drop_zero, Act.put, List.setIfInBounds_toArray, List.set_cons_succ, List.set_cons_zero, ptr]
    refine store_b4 rfl (.tmp 10) (.tmp 55) rfl rfl g10 px' py' pz' 255 rfl rfl _ _ _ _ k10 ?_
    have k11' : (w2.setRow g10 #[.int .u8 px', .int .u8 py', .int .u8 pz', .int .u8 255]).heap[g11]? = some (box4 0 0 0 0) := by rw [setRow_other _ _ _ _ (Ne.symm hne)]; exact k11
    refine store_b4 rfl (.tmp 11) (.tmp 58) rfl rfl g11 rx' ry' rz' 255 rfl rfl _ _ _ _ k11' ?_
    have P5 := Lib.hid ((setRow_other (w2.setRow g10 #[.int .u8 px', .int .u8 py', .int .u8 pz', .int .u8 255]) g11 g10 #[.int .u8 rx', .int .u8 ry', .int .u8 rz', .int .u8 255] hne).trans (setRow_heap _ _ _ _ _ _ k10))
    have P6 := Lib.hid (setRow_heap _ g11 _ #[.int .u8 rx', .int .u8 ry', .int .u8 rz', .int .u8 255] _ _ k11')
    have HB3 := Lib.hid (below_setRow (below_setRow hB3 (Nat.le_of_lt hs10) #[.int .u8 px', .int .u8 py', .int .u8 pz', .int .u8 255]) (Nat.le_of_lt hs11) #[.int .u8 rx', .int .u8 ry', .int .u8 rz', .int .u8 255])
    have K2 := Lib.hid (((setRow_other (w2.setRow g10 #[.int .u8 px', .int .u8 py', .int .u8 pz', .int .u8 255]) g11 w.heap.size #[.int .u8 rx', .int .u8 ry', .int .u8 rz', .int .u8 255] (by omega)).trans (setRow_other w2 g10 w.heap.size #[.int .u8 px', .int .u8 py', .int .u8 pz', .int .u8 255] (by omega))).trans K1.out)
    clear k10 k11 k11' hB3 hs10 hs11 hne K1
    generalize (w2.setRow g10 _).setRow g11 _ = W3 at *
    have u0 := cell_row P5.out 0 _ rfl
    have u1 := cell_row P5.out 1 _ rfl
    have u2 := cell_row P5.out 2 _ rfl
    have u3 := cell_row P5.out 3 _ rfl
    have v0 := cell_row P6.out 0 _ rfl
    have v1 := cell_row P6.out 1 _ rfl
    have v2 := cell_row P6.out 2 _ rfl
    have v3 := cell_row P6.out 3 _ rfl
    obtain ⟨a0, a1, a2⟩ := cells_now K2.out
    go_wp2_with fail
    clear u0 u1 u2 u3 v0 v1 v2 v3 a0 a1 a2
    refine (C1.out _).mono ?_
    rintro e W4 ⟨rfl, hb4⟩
    have HB4 := Lib.hid (HB3.out.trans (hb4.mono HB3.out.size))
    clear hb4 HB3 P5 P6 K2 C1
    obtain ⟨W5, hW5⟩ : ∃ V, V = (W4.alloc (box3 ⟨0, 0, 0⟩)).setRow W4.heap.size #[.int .i64 cx, .int .i64 cy, .int .i64 cz] := ⟨_, rfl⟩
    have N5 := Lib.hid (show W5.heap[W4.heap.size]? = some (box3 ⟨cx, cy, cz⟩) by rw [hW5]; exact put3_row _ _ _ _)
    have hxW5 : Below W4.heap.size W4 W5 := by rw [hW5]; exact put3_ext _ _ _ _
    have HB5 := Lib.hid (HB4.out.trans (hxW5.mono HB4.out.size))
    have HHW5 := Lib.hid hW5
    clear hW5 hxW5 HB4
    go_upto_region 10 with (with_reducible refine store_vec rfl (.tmp 12) (.tmp 89) rfl rfl W4.heap.size cx cy cz rfl rfl _ _ _ (heap_alloc_new _ _) ?_)
    rw [← HHW5.out]
    clear HHW5
    generalize W4.heap.size = g12 at *
    clear W4
    obtain ⟨n0, n1, n2⟩ := cells3 N5.out
    refine wp_region_quiet_below (by kernel_rfl) (by kernel_rfl) ?_
    repeat (go_big_quiet_step (first | (with_reducible exact Q3.out _ _ _)))
    refine wpQuiet_nil ?_
    rintro _ ⟨⟨dq, osq⟩, rfl⟩
    clear n0 n1 n2 Q3
    have N6 := Lib.hid (heap_regrown N5.out dq osq)
    have HB6 := Lib.hid (HB5.out.trans ((below_regrown W5 dq osq).mono HB5.out.size))
    clear N5 HB5
    generalize grow (redrawn W5 dq) osq = W6 at *
    go_upto_region 13 with (fail)
    obtain ⟨n0, n1, n2⟩ := cells3 N6.out
    refine wp_region_quiet_below (by kernel_rfl) (by kernel_rfl) ?_
    repeat (go_big_quiet_step (first | (with_reducible exact Q4.out _ _ _) | (with_reducible exact HQ5.out _ _ _) | (with_reducible exact Q6.out _ _ _)))
    refine wpQuiet_nil ?_
    rintro _ ⟨⟨dq, osq⟩, rfl⟩
    have HB7 := Lib.hid (HB6.out.trans ((below_regrown W6 dq osq).mono HB6.out.size))
    go_wp2_with fail
    go_ret
    exact ⟨rfl, HB7.out⟩
end Go.Proofs.Ytnfbeldiideonaa.LightF
