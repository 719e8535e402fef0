/- The walk of ref12's Bytes. -/
import Derived.Test.YtdmmjmdnljhooaaMeshH
set_option linter.unusedVariables false
set_option linter.unusedSimpArgs false
namespace Go.Proofs.Ytdmmjmdnljhooaa.MeshI
open Go.RowKit Go.Sort FixM Base Num Qb Qt VecW VecV VecU LightQ LightC MeshM Rec MeshA MeshB MeshC MeshD MeshE MeshF MeshG MeshH

set_option maxRecDepth 100000 in
set_option maxHeartbeats 8000000 in
theorem rbytes_any (v : Value) (m : Msh) (w : World) (hm : IsMesh w v m) (hl : m.ts.length + m.bs.length ≤ 9223372036854775807) : Calls Try.prog 15 #[v] w (BTo w m) := by
  have CH := Lib.hid (fun w' (hb : Below w.heap.size w w') => rcheck_any v m w' (hm.below hb) hl)
  obtain ⟨a0, c0, a1, c1, a2, c2, rfl, h0, h1, h2, l0, l1, l2⟩ := hm.open_
  obtain ⟨W, hW⟩ : ∃ W, W = w.alloc (.cells #[.slice a0 m.ps.length c0, .slice a1 m.ts.length c1, .slice a2 m.bs.length c2] 30) := ⟨_, rfl⟩
  have hB : Below w.heap.size w W := by rw [hW]; exact ext_alloc _ _
  have hR : W.heap[w.heap.size]? = some (.cells #[.slice a0 m.ps.length c0, .slice a1 m.ts.length c1, .slice a2 m.bs.length c2] 30) := by rw [hW]; exact heap_alloc_new _ _
  have R0 := Lib.hid h0
  have R1 := Lib.hid h1
  have R2 := Lib.hid h2
  have k0 := cell_row hR 0 (.slice a0 m.ps.length c0) rfl
  have k1 := cell_row hR 1 (.slice a1 m.ts.length c1) rfl
  have k2 := cell_row hR 2 (.slice a2 m.bs.length c2) rfl
  have HO := Lib.hid (show BTo w m = fun e w' => ∃ v, e = .returned (.tuple #[v, .int .i64 (checkF m)]) ∧ Own .u8 256 5 w.heap.size w' v (outF m) ∧ Below w.heap.size w w' from rfl)
  have HCK := check_or m
  have HNT := not_too m
  have HOF := Lib.hid (show checkF m ≠ 0 → outF m = [] from fun h => by unfold outF; rw [if_neg h])
  have HOF2 := Lib.hid (show checkF m = 0 → outF m = bytesF m from fun h => by unfold outF; rw [if_pos h])
  obtain ⟨r, hr⟩ : ∃ r, r = checkF m := ⟨_, rfl⟩
  rw [← hr] at CH HO HCK HNT HOF HOF2
  clear hr hm h0 h1 h2 hl
  have HBF := Lib.hid (show bytesF m = beL m.ps.length 4 ++ beL m.ts.length 4 ++ beL m.bs.length 4 ++ m.ps.flatMap be3 ++ m.ts.flatMap be3t ++ m.bs.flatMap be4 from rfl)
  obtain ⟨out, hout⟩ : ∃ o, o = outF m := ⟨_, rfl⟩
  obtain ⟨bts, hbts⟩ : ∃ o, o = bytesF m := ⟨_, rfl⟩
  rw [← hout] at HO HOF HOF2
  rw [← hbts] at HOF2 HBF
  obtain ⟨QQ, hQQ⟩ : ∃ Q, Q = BTo w m := ⟨_, rfl⟩
  rw [← hQQ] at HO ⊢
  clear hout hbts hQQ
  obtain ⟨ps, ts, bs⟩ := m
  dsimp only at *
  obtain ⟨n0, hn0⟩ : ∃ n, n = ps.length := ⟨_, rfl⟩
  obtain ⟨n1, hn1⟩ : ∃ n, n = ts.length := ⟨_, rfl⟩
  obtain ⟨n2, hn2⟩ : ∃ n, n = bs.length := ⟨_, rfl⟩
  rw [← hn0, ← hn1, ← hn2] at hR hW CH HNT HBF
  rw [← hn0] at k0 R0 l0
  rw [← hn1] at k1 R1 l1
  rw [← hn2] at k2 R2 l2
  rw [← hn0, ← hn1, ← hn2]
  have HN0 := Lib.hid hn0
  have HN1 := Lib.hid hn1
  have HN2 := Lib.hid hn2
  have HR := Lib.hid hR
  have HB := Lib.hid hB
  have HWW := Lib.hid hW
  clear hn0 hn1 hn2 hR hB
  rw [hW] at k0 k1 k2
  clear hW
  go_enter Try.func15, Try.ntmps15
  go_wp2_with fail
  rw [← HWW.out]
  clear k0 k1 k2
  refine (CH.out _ HB.out).mono ?_
  rintro e w1 ⟨rfl, hb1⟩
  have HB1 := Lib.hid (HB.out.trans (hb1.mono HB.out.size))
  have HR1 := Lib.hid (vec_step HR.out hb1)
  clear hb1 CH HB HR HWW
  rcases HCK with rfl | rfl
  · have he := HOF2.out rfl
    obtain ⟨hl0, hl1⟩ := HNT rfl
    subst he
    have HL := Lib.hid (show n0 ≤ 4096 ∧ n1 ≤ 4096 ∧ n2 ≤ 4096 from ⟨hl0, by omega, by omega⟩)
    clear HNT HOF HOF2 hl0 hl1
    have P0 := Lib.hid (show Ro w w1 (fun b => b = w.heap.size) (.slice none 0 0) [] w1 from ⟨Own.nil _ _ _ _ _, HB1.out, fun b hb => ⟨by rw [hb]; exact lt_of_heap HR1.out, by simp [Value.ownBlock]⟩, fun _ _ => rfl⟩)
    clear HB1
    have q0 : IntKind.u64.wrap (n0 : Int) = (n0 : Int) := by have := HL.out; rw [u64N_wrap]; unfold u64N; omega
    have q1 : IntKind.u64.wrap (n1 : Int) = (n1 : Int) := by have := HL.out; rw [u64N_wrap]; unfold u64N; omega
    have q2 : IntKind.u64.wrap (n2 : Int) = (n2 : Int) := by have := HL.out; rw [u64N_wrap]; unfold u64N; omega
    have EN := enters Try.func38 (by kernel_rfl) rfl
    have k0 := cell_row HR1.out 0 (.slice a0 n0 c0) rfl
    go_wp2_with fail
    clear k0 q0
    refine (rput_any w w1 w1 _ _ _ P0.out n0 (by have := HL.out; omega) 4 (by decide) (by simp)).mono ?_
    rintro e w2 ⟨v2, rfl, hp2⟩
    have P2 := Lib.hid hp2
    have k1 := cell_row ((hp2.kept _ rfl).trans HR1.out) 1 (.slice a1 n1 c1) rfl
    clear hp2 P0
    go_wp2_with fail
    clear k1 q1
    refine (rput_any w w1 w2 _ _ _ P2.out n1 (by have := HL.out; omega) 4 (by decide) (by simp [beL_len])).mono ?_
    rintro e w3 ⟨v3, rfl, hp3⟩
    have P3 := Lib.hid hp3
    have k2 := cell_row ((hp3.kept _ rfl).trans HR1.out) 2 (.slice a2 n2 c2) rfl
    clear hp3 P2
    go_wp2_with fail
    clear k2 q2
    refine (rput_any w w1 w3 _ _ _ P3.out n2 (by have := HL.out; omega) 4 (by decide) (by simp [beL_len])).mono ?_
    rintro e w4 ⟨v4, rfl, hp4⟩
    have P4 := Lib.hid hp4
    clear hp4 P3
    obtain ⟨L0, hL0⟩ : ∃ l, l = [] ++ beL n0 4 ++ beL n1 4 ++ beL n2 4 := ⟨_, rfl⟩
    rw [← hL0] at P4
    have HL0 := Lib.hid (show L0 = beL n0 4 ++ beL n1 4 ++ beL n2 4 by rw [hL0]; simp)
    have HL12 := Lib.hid (show L0.length = 12 by rw [hL0]; simp [beL_len])
    clear hL0 w2 w3
    go_wp2_with fail
    go_loopg [4, 5] n0 (fun r n4 n9 wr => ∃ (i : Nat) (v' : Value), i + r = n0 ∧ n4 = v' ∧ n9 = .int .i64 (i : Int) ∧ Hid (Ro w w1 (fun b => b = w.heap.size) v' (L0 ++ (ps.take i).flatMap be3) wr))
    case atStart => exact ⟨0, v4, by omega, rfl, rfl, Lib.hid (by simpa using P4.out)⟩
    case round =>
      obtain ⟨i, v', hir, hv4, rfl, hin⟩ := hrel
      have hv5 := hv4.symm
      subst hv5
      have q0 := cell_row ((hin.out.kept _ rfl).trans HR1.out) 0 (.slice a0 n0 c0) rfl
      by_cases hi : i < ps.length
      · have hv1 := R0.out.below hin.out.below (Nat.le_refl _)
        obtain ⟨b, off, e, hb, p0, p1, p2⟩ := at3 hv1 i hi
        subst e
        obtain ⟨u, hu⟩ : ∃ u, u = ps[i] := ⟨_, rfl⟩
        rw [← hu] at p0 p1 p2
        have HU := Lib.hid hu
        clear hu hv1
        have hin0 : (i : Int) < (n0 : Int) := by have := HN0.out; omega
        have d3 : decide (i < n0) = true := decide_eq_true (by have := HN0.out; omega)
        have d2 : decide ((i : Int) < (n0 : Int)) = true := decide_eq_true hin0
        obtain ⟨Y, hY⟩ : ∃ W, W = (wr.alloc (.cells #[.int .i64 0, .int .i64 0, .int .i64 0] 23)).setRow wr.heap.size #[.int .i64 u.x, .int .i64 u.y, .int .i64 u.z] := ⟨_, rfl⟩
        have hYB : Below wr.heap.size wr Y := by rw [hY]; exact below_setRow (ext_alloc _ _) (Nat.le_refl _) _
        have G := Lib.hid (show Y.heap[wr.heap.size]? = some (.cells #[.int .i64 u.x, .int .i64 u.y, .int .i64 u.z] 23) by rw [hY]; exact setRow_heap _ _ _ _ _ _ (heap_alloc_new _ _))
        have PY := Lib.hid (hin.out.step hYB)
        have HVV := Lib.hid hY
        have HRR := Lib.hid hir
        have HLL := Lib.hid (show (L0 ++ (ps.take i).flatMap be3).length ≤ 999999000 by rw [List.length_append, flat3_len, HL12.out, List.length_take]; have := HL.out; have := HN0.out; omega)
        obtain ⟨LL, hLL⟩ : ∃ l, l = L0 ++ (ps.take i).flatMap be3 := ⟨_, rfl⟩
        rw [← hLL] at PY HLL
        have HLQ := Lib.hid hLL
        have RO0 := Lib.hid (show Ro w Y (fun b => b = w.heap.size ∨ b = wr.heap.size) v' LL Y from ⟨PY.out.own, PY.out.below, fun b hb => by
          rcases hb with rfl | rfl
          · exact PY.out.free _ rfl
          · exact ⟨lt_of_heap G.out, fun e => by have := (hin.out.own.lt _ e).2; omega⟩, fun _ _ => rfl⟩)
        have BK := Lib.hid (fun (w' : World) (v : Value) (L : List Nat) (h : Ro w Y (fun b => b = w.heap.size ∨ b = wr.heap.size) v L w') => (show Ro w w1 (fun b => b = w.heap.size) v L w' from ⟨h.own, h.below, fun b hb => h.free b (.inl hb), fun b hb => (h.kept b (.inl hb)).trans (PY.out.kept b hb)⟩))
        clear hY hYB hir hLL
        obtain ⟨x, y, z⟩ := u
        go_upto_region 11 with (with_reducible refine store_recV rfl (.tmp 6) (.tmp 43) rfl rfl wr.heap.size x y z rfl rfl _ (heap_alloc_new _ _) rfl ?_)
        rw [← HVV.out]
        clear HVV p0 p1 p2 d2 d3 q0
        have ux := u64N_wrap x
        have uy := u64N_wrap y
        have uz := u64N_wrap z
        obtain ⟨X1, hX1⟩ : ∃ X, X = u64N x := ⟨_, rfl⟩
        obtain ⟨X2, hX2⟩ : ∃ X, X = u64N y := ⟨_, rfl⟩
        obtain ⟨X3, hX3⟩ : ∃ X, X = u64N z := ⟨_, rfl⟩
        have HX1 := Lib.hid (show X1 < 18446744073709551616 by rw [hX1]; exact u64N_lt _)
        have HX2 := Lib.hid (show X2 < 18446744073709551616 by rw [hX2]; exact u64N_lt _)
        have HX3 := Lib.hid (show X3 < 18446744073709551616 by rw [hX3]; exact u64N_lt _)
        have HE3 := Lib.hid (show be3 ⟨x, y, z⟩ = beL X1 8 ++ beL X2 8 ++ beL X3 8 by rw [hX1, hX2, hX3]; rfl)
        rw [← hX1] at ux
        rw [← hX2] at uy
        rw [← hX3] at uz
        clear hX1 hX2 hX3
        refine Qw.wp_region_writes 13 [0, 1, 2, 3, 5, 6, 7, 9, 10, 11] [4, 8, 12] (fun (s : Value × List Nat) w2 => Ro w Y (fun b => b = w.heap.size ∨ b = wr.heap.size) s.1 s.2 w2) (v', LL) (by kernel_rfl) (by kernel_rfl) (RO0.out.step ⟨rfl, rfl, rfl, Nat.le_refl _, fun _ _ => rfl⟩) ?_
        refine Qw.Walk.step (A := ?A1) (o := ?o1) (fun s w w2 h hb => Ro.step h hb) (v', LL) Y RO0.out ?e1 ?w1 44 ?d1 (by simp) ?h1 ?n1
        case e1 => simp only [List.getElem?_toArray, List.getElem?_cons_succ, List.getElem?_cons_zero]; exact rfl
        case w1 => exact rfl
        case d1 => exact rfl
        case h1 =>
          intro s9 w9 h9
          go_big_quiet_op
          exact rfl
        refine Qw.Walk.step (A := ?A2) (o := ?o2) (fun s w w2 h hb => Ro.step h hb) (v', LL) Y RO0.out ?e2 ?w2 45 ?d2 (by simp) ?h2 ?n2
        case e2 => simp only [List.getElem?_toArray, List.getElem?_cons_succ, List.getElem?_cons_zero]; exact rfl
        case w2 => exact rfl
        case d2 => exact rfl
        case h2 =>
          intro s9 w9 h9
          go_big_quiet_op
          exact rfl
        refine Qw.Walk.step (A := ?A3) (o := ?o3) (fun s w w2 h hb => Ro.step h hb) (v', LL) Y RO0.out ?e3 ?w3 46 ?d3 (by simp) ?h3 ?n3
        case e3 => simp only [List.getElem?_toArray, List.getElem?_cons_succ, List.getElem?_cons_zero]; exact rfl
        case w3 => exact rfl
        case d3 => exact rfl
        case h3 =>
          intro s9 w9 h9
          have e0 := cell_all ((h9.kept wr.heap.size (.inr rfl)).trans G.out) 0 (.int .i64 x) rfl
          go_big_quiet_op
          exact rfl
        refine Qw.Walk.step (A := ?A4) (o := ?o4) (fun s w w2 h hb => Ro.step h hb) (v', LL) Y RO0.out ?e4 ?w4 47 ?d4 (by simp) ?h4 ?n4
        case e4 => simp only [List.getElem?_toArray, List.getElem?_cons_succ, List.getElem?_cons_zero]; exact rfl
        case w4 => exact rfl
        case d4 => exact rfl
        case h4 =>
          intro s9 w9 h9
          go_big_quiet_op
          exact rfl
        refine Qw.Walk.step (A := ?A5) (o := ?o5) (fun s w w2 h hb => Ro.step h hb) (v', LL) Y RO0.out ?e5 ?w5 49 ?d5 (by simp) ?h5 ?n5
        case e5 => simp only [List.getElem?_toArray, List.getElem?_cons_succ, List.getElem?_cons_zero]; exact rfl
        case w5 => exact rfl
        case d5 => exact rfl
        case h5 =>
          intro s9 w9 h9
          go_big_quiet_op
          exact rfl
        refine Qw.Walk.step (A := ?A6) (o := ?o6) (fun s w w2 h hb => Ro.step h hb) (v', LL) Y RO0.out ?e6 ?w6 50 ?d6 (by simp) ?h6 ?n6
        case e6 => simp only [List.getElem?_toArray, List.getElem?_cons_succ, List.getElem?_cons_zero]; exact rfl
        case w6 => exact rfl
        case d6 => exact rfl
        case h6 =>
          intro s9 w9 h9
          have e0 := cell_all ((h9.kept wr.heap.size (.inr rfl)).trans G.out) 1 (.int .i64 y) rfl
          go_big_quiet_op
          exact rfl
        refine Qw.Walk.step (A := ?A7) (o := ?o7) (fun s w w2 h hb => Ro.step h hb) (v', LL) Y RO0.out ?e7 ?w7 51 ?d7 (by simp) ?h7 ?n7
        case e7 => simp only [List.getElem?_toArray, List.getElem?_cons_succ, List.getElem?_cons_zero]; exact rfl
        case w7 => exact rfl
        case d7 => exact rfl
        case h7 =>
          intro s9 w9 h9
          go_big_quiet_op
          exact rfl
        refine Qw.Walk.step (A := ?A8) (o := ?o8) (fun s w w2 h hb => Ro.step h hb) (v', LL) Y RO0.out ?e8 ?w8 53 ?d8 (by simp) ?h8 ?n8
        case e8 => simp only [List.getElem?_toArray, List.getElem?_cons_succ, List.getElem?_cons_zero]; exact rfl
        case w8 => exact rfl
        case d8 => exact rfl
        case h8 =>
          intro s9 w9 h9
          go_big_quiet_op
          exact rfl
        refine Qw.Walk.step (A := ?A9) (o := ?o9) (fun s w w2 h hb => Ro.step h hb) (v', LL) Y RO0.out ?e9 ?w9 54 ?d9 (by simp) ?h9 ?n9
        case e9 => simp only [List.getElem?_toArray, List.getElem?_cons_succ, List.getElem?_cons_zero]; exact rfl
        case w9 => exact rfl
        case d9 => exact rfl
        case h9 =>
          intro s9 w9 h9
          have e0 := cell_all ((h9.kept wr.heap.size (.inr rfl)).trans G.out) 2 (.int .i64 z) rfl
          go_big_quiet_op
          exact rfl
        refine Qw.Walk.step (A := ?A10) (o := ?o10) (fun s w w2 h hb => Ro.step h hb) (v', LL) Y RO0.out ?e10 ?w10 55 ?d10 (by simp) ?h10 ?n10
        case e10 => simp only [List.getElem?_toArray, List.getElem?_cons_succ, List.getElem?_cons_zero]; exact rfl
        case w10 => exact rfl
        case d10 => exact rfl
        case h10 =>
          intro s9 w9 h9
          go_big_quiet_op
          exact rfl
        refine Qw.Chain.call (o := ?o11) 38 #[v', .int .u64 (X1 : Int), .int .i64 8] (fun v s => s = (v, LL ++ beL X1 8)) ?e11 ?w11 ?r11 ?c11 ?n11
        case e11 => simp only [List.getElem?_toArray, List.getElem?_cons_succ, List.getElem?_cons_zero]; exact rfl
        case w11 => exact rfl
        case r11 => intro w9; simp [execOp, Act.eval, Act.put, resolve, EN, go_sem]
        case c11 =>
          intro w9 h9
          refine (rput_any w Y w9 _ _ (LL) h9 X1 HX1.out 8 (by decide) (by have := HLL.out; omega)).mono ?_
          rintro e w8 ⟨v8, rfl, h8⟩
          exact ⟨v8, (v8, _), rfl, rfl, h8⟩
        rintro va11 s9 rfl
        refine Qw.Chain.call (o := ?o12) 38 #[va11, .int .u64 (X2 : Int), .int .i64 8] (fun v s => s = (v, LL ++ beL X1 8 ++ beL X2 8)) ?e12 ?w12 ?r12 ?c12 ?n12
        case e12 => simp only [List.getElem?_toArray, List.getElem?_cons_succ, List.getElem?_cons_zero]; exact rfl
        case w12 => exact rfl
        case r12 => intro w9; simp [execOp, Act.eval, Act.put, resolve, EN, go_sem]
        case c12 =>
          intro w9 h9
          refine (rput_any w Y w9 _ _ (LL ++ beL X1 8) h9 X2 HX2.out 8 (by decide) (by have := HLL.out; simp [beL_len]; omega)).mono ?_
          rintro e w8 ⟨v8, rfl, h8⟩
          exact ⟨v8, (v8, _), rfl, rfl, h8⟩
        rintro va12 s9 rfl
        refine Qw.Chain.call (o := ?o13) 38 #[va12, .int .u64 (X3 : Int), .int .i64 8] (fun v s => s = (v, LL ++ beL X1 8 ++ beL X2 8 ++ beL X3 8)) ?e13 ?w13 ?r13 ?c13 ?n13
        case e13 => simp only [List.getElem?_toArray, List.getElem?_cons_succ, List.getElem?_cons_zero]; exact rfl
        case w13 => exact rfl
        case r13 => intro w9; simp [execOp, Act.eval, Act.put, resolve, EN, go_sem]
        case c13 =>
          intro w9 h9
          refine (rput_any w Y w9 _ _ (LL ++ beL X1 8 ++ beL X2 8) h9 X3 HX3.out 8 (by decide) (by have := HLL.out; simp [beL_len]; omega)).mono ?_
          rintro e w8 ⟨v8, rfl, h8⟩
          exact ⟨v8, (v8, _), rfl, rfl, h8⟩
        rintro va13 s9 rfl
        intro w7 h7
        have H7 := Lib.hid (BK.out w7 va13 (LL ++ beL X1 8 ++ beL X2 8 ++ beL X3 8) h7)
        clear h7
        simp only [List.drop_succ_cons, List.drop_zero, Act.put, List.setIfInBounds_toArray, List.set_cons_succ, List.set_cons_zero]
        go_wp2_with fail
        go_roundg (n0 - (i + 1))
        case measure => have := HRR.out; have := HN0.out; omega
        case rel =>
          refine ⟨i + 1, _, by have := HRR.out; have := HN0.out; omega, rfl, by go_num, Lib.hid ?_⟩
          have h := H7.out
          rw [take_next ps i hi, ← HU.out, HE3.out, ← List.append_assoc L0, ← HLQ.out]
          simpa [List.append_assoc] using h
      · have d3 : decide (i < n0) = false := decide_eq_false (by have := HN0.out; omega)
        have d2 : decide ((i : Int) < (n0 : Int)) = false := decide_eq_false (by have := HN0.out; omega)
        have hin' := hin.out
        rw [List.take_of_length_le (by omega)] at hin'
        obtain ⟨L1, hL1⟩ : ∃ l, l = L0 ++ ps.flatMap be3 := ⟨_, rfl⟩
        rw [← hL1] at hin'
        have HI := Lib.hid hin'
        have HL1 := Lib.hid hL1
        have HL1n := Lib.hid (show L1.length = 12 + 24 * n0 by rw [hL1, List.length_append, flat3_len, HL12.out]; have := HN0.out; omega)
        clear hin hin' hL1
        go_wp2_with fail
        clear q0 d2 d3
        go_loopg [4, 7] n1 (fun r n4 n9 wr => ∃ (i : Nat) (v' : Value), i + r = n1 ∧ n4 = v' ∧ n9 = .int .i64 (i : Int) ∧ Hid (Ro w w1 (fun b => b = w.heap.size) v' (L1 ++ (ts.take i).flatMap be3t) wr))
        case atStart => exact ⟨0, v', by omega, rfl, rfl, Lib.hid (by simpa using HI.out)⟩
        case round =>
          obtain ⟨i, v', hir, hv4, rfl, hin⟩ := hrel
          have hv5 := hv4.symm
          subst hv5
          have q1 := cell_row ((hin.out.kept _ rfl).trans HR1.out) 1 (.slice a1 n1 c1) rfl
          by_cases hi : i < ts.length
          · have hv1 := R1.out.below hin.out.below (Nat.le_refl _)
            obtain ⟨b, off, e, hb, p0, p1, p2⟩ := at3 hv1 i hi
            subst e
            obtain ⟨u, hu⟩ : ∃ u, u = ts[i] := ⟨_, rfl⟩
            rw [← hu] at p0 p1 p2
            have HU := Lib.hid hu
            clear hu hv1
            have hin1 : (i : Int) < (n1 : Int) := by have := HN1.out; omega
            have d3 : decide (i < n1) = true := decide_eq_true (by have := HN1.out; omega)
            have d2 : decide ((i : Int) < (n1 : Int)) = true := decide_eq_true hin1
            obtain ⟨Y, hY⟩ : ∃ W, W = (wr.alloc (.cells #[.int .i64 0, .int .i64 0, .int .i64 0] 31)).setRow wr.heap.size #[.int .i64 u.x, .int .i64 u.y, .int .i64 u.z] := ⟨_, rfl⟩
            have hYB : Below wr.heap.size wr Y := by rw [hY]; exact below_setRow (ext_alloc _ _) (Nat.le_refl _) _
            have G := Lib.hid (show Y.heap[wr.heap.size]? = some (.cells #[.int .i64 u.x, .int .i64 u.y, .int .i64 u.z] 31) by rw [hY]; exact setRow_heap _ _ _ _ _ _ (heap_alloc_new _ _))
            have PY := Lib.hid (hin.out.step hYB)
            have HVV := Lib.hid hY
            have HRR := Lib.hid hir
            have HLL := Lib.hid (show (L1 ++ (ts.take i).flatMap be3t).length ≤ 999999000 by rw [List.length_append, flat3t_len, HL1n.out, List.length_take]; have := HL.out; have := HN1.out; omega)
            obtain ⟨LL, hLL⟩ : ∃ l, l = L1 ++ (ts.take i).flatMap be3t := ⟨_, rfl⟩
            rw [← hLL] at PY HLL
            have HLQ := Lib.hid hLL
            have RO0 := Lib.hid (show Ro w Y (fun b => b = w.heap.size ∨ b = wr.heap.size) v' LL Y from ⟨PY.out.own, PY.out.below, fun b hb => by
              rcases hb with rfl | rfl
              · exact PY.out.free _ rfl
              · exact ⟨lt_of_heap G.out, fun e => by have := (hin.out.own.lt _ e).2; omega⟩, fun _ _ => rfl⟩)
            have BK := Lib.hid (fun (w' : World) (v : Value) (L : List Nat) (h : Ro w Y (fun b => b = w.heap.size ∨ b = wr.heap.size) v L w') => (show Ro w w1 (fun b => b = w.heap.size) v L w' from ⟨h.own, h.below, fun b hb => h.free b (.inl hb), fun b hb => (h.kept b (.inl hb)).trans (PY.out.kept b hb)⟩))
            clear hY hYB hir hLL
            obtain ⟨x, y, z⟩ := u
            go_upto_region 16 with (with_reducible refine store_recT rfl (.tmp 8) (.tmp 68) rfl rfl wr.heap.size x y z rfl rfl _ (heap_alloc_new _ _) rfl ?_)
            rw [← HVV.out]
            clear HVV p0 p1 p2 d2 d3 q1
            have ux := u64N_wrap x
            have uy := u64N_wrap y
            have uz := u64N_wrap z
            obtain ⟨X1, hX1⟩ : ∃ X, X = u64N x := ⟨_, rfl⟩
            obtain ⟨X2, hX2⟩ : ∃ X, X = u64N y := ⟨_, rfl⟩
            obtain ⟨X3, hX3⟩ : ∃ X, X = u64N z := ⟨_, rfl⟩
            have HX1 := Lib.hid (show X1 < 18446744073709551616 by rw [hX1]; exact u64N_lt _)
            have HX2 := Lib.hid (show X2 < 18446744073709551616 by rw [hX2]; exact u64N_lt _)
            have HX3 := Lib.hid (show X3 < 18446744073709551616 by rw [hX3]; exact u64N_lt _)
            have HE3 := Lib.hid (show be3t ⟨x, y, z⟩ = beL X1 4 ++ beL X2 4 ++ beL X3 4 by rw [hX1, hX2, hX3]; rfl)
            rw [← hX1] at ux
            rw [← hX2] at uy
            rw [← hX3] at uz
            clear hX1 hX2 hX3
            refine Qw.wp_region_writes 13 [0, 1, 2, 3, 5, 6, 7, 9, 10, 11] [4, 8, 12] (fun (s : Value × List Nat) w2 => Ro w Y (fun b => b = w.heap.size ∨ b = wr.heap.size) s.1 s.2 w2) (v', LL) (by kernel_rfl) (by kernel_rfl) (RO0.out.step ⟨rfl, rfl, rfl, Nat.le_refl _, fun _ _ => rfl⟩) ?_
            refine Qw.Walk.step (A := ?A14) (o := ?o14) (fun s w w2 h hb => Ro.step h hb) (v', LL) Y RO0.out ?e14 ?w14 69 ?d14 (by simp) ?h14 ?n14
            case e14 => simp only [List.getElem?_toArray, List.getElem?_cons_succ, List.getElem?_cons_zero]; exact rfl
            case w14 => exact rfl
            case d14 => exact rfl
            case h14 =>
              intro s9 w9 h9
              go_big_quiet_op
              exact rfl
            refine Qw.Walk.step (A := ?A15) (o := ?o15) (fun s w w2 h hb => Ro.step h hb) (v', LL) Y RO0.out ?e15 ?w15 70 ?d15 (by simp) ?h15 ?n15
            case e15 => simp only [List.getElem?_toArray, List.getElem?_cons_succ, List.getElem?_cons_zero]; exact rfl
            case w15 => exact rfl
            case d15 => exact rfl
            case h15 =>
              intro s9 w9 h9
              go_big_quiet_op
              exact rfl
            refine Qw.Walk.step (A := ?A16) (o := ?o16) (fun s w w2 h hb => Ro.step h hb) (v', LL) Y RO0.out ?e16 ?w16 71 ?d16 (by simp) ?h16 ?n16
            case e16 => simp only [List.getElem?_toArray, List.getElem?_cons_succ, List.getElem?_cons_zero]; exact rfl
            case w16 => exact rfl
            case d16 => exact rfl
            case h16 =>
              intro s9 w9 h9
              have e0 := cell_all ((h9.kept wr.heap.size (.inr rfl)).trans G.out) 0 (.int .i64 x) rfl
              go_big_quiet_op
              exact rfl
            refine Qw.Walk.step (A := ?A17) (o := ?o17) (fun s w w2 h hb => Ro.step h hb) (v', LL) Y RO0.out ?e17 ?w17 72 ?d17 (by simp) ?h17 ?n17
            case e17 => simp only [List.getElem?_toArray, List.getElem?_cons_succ, List.getElem?_cons_zero]; exact rfl
            case w17 => exact rfl
            case d17 => exact rfl
            case h17 =>
              intro s9 w9 h9
              go_big_quiet_op
              exact rfl
            refine Qw.Walk.step (A := ?A18) (o := ?o18) (fun s w w2 h hb => Ro.step h hb) (v', LL) Y RO0.out ?e18 ?w18 74 ?d18 (by simp) ?h18 ?n18
            case e18 => simp only [List.getElem?_toArray, List.getElem?_cons_succ, List.getElem?_cons_zero]; exact rfl
            case w18 => exact rfl
            case d18 => exact rfl
            case h18 =>
              intro s9 w9 h9
              go_big_quiet_op
              exact rfl
            refine Qw.Walk.step (A := ?A19) (o := ?o19) (fun s w w2 h hb => Ro.step h hb) (v', LL) Y RO0.out ?e19 ?w19 75 ?d19 (by simp) ?h19 ?n19
            case e19 => simp only [List.getElem?_toArray, List.getElem?_cons_succ, List.getElem?_cons_zero]; exact rfl
            case w19 => exact rfl
            case d19 => exact rfl
            case h19 =>
              intro s9 w9 h9
              have e0 := cell_all ((h9.kept wr.heap.size (.inr rfl)).trans G.out) 1 (.int .i64 y) rfl
              go_big_quiet_op
              exact rfl
            refine Qw.Walk.step (A := ?A20) (o := ?o20) (fun s w w2 h hb => Ro.step h hb) (v', LL) Y RO0.out ?e20 ?w20 76 ?d20 (by simp) ?h20 ?n20
            case e20 => simp only [List.getElem?_toArray, List.getElem?_cons_succ, List.getElem?_cons_zero]; exact rfl
            case w20 => exact rfl
            case d20 => exact rfl
            case h20 =>
              intro s9 w9 h9
              go_big_quiet_op
              exact rfl
            refine Qw.Walk.step (A := ?A21) (o := ?o21) (fun s w w2 h hb => Ro.step h hb) (v', LL) Y RO0.out ?e21 ?w21 78 ?d21 (by simp) ?h21 ?n21
            case e21 => simp only [List.getElem?_toArray, List.getElem?_cons_succ, List.getElem?_cons_zero]; exact rfl
            case w21 => exact rfl
            case d21 => exact rfl
            case h21 =>
              intro s9 w9 h9
              go_big_quiet_op
              exact rfl
            refine Qw.Walk.step (A := ?A22) (o := ?o22) (fun s w w2 h hb => Ro.step h hb) (v', LL) Y RO0.out ?e22 ?w22 79 ?d22 (by simp) ?h22 ?n22
            case e22 => simp only [List.getElem?_toArray, List.getElem?_cons_succ, List.getElem?_cons_zero]; exact rfl
            case w22 => exact rfl
            case d22 => exact rfl
            case h22 =>
              intro s9 w9 h9
              have e0 := cell_all ((h9.kept wr.heap.size (.inr rfl)).trans G.out) 2 (.int .i64 z) rfl
              go_big_quiet_op
              exact rfl
            refine Qw.Walk.step (A := ?A23) (o := ?o23) (fun s w w2 h hb => Ro.step h hb) (v', LL) Y RO0.out ?e23 ?w23 80 ?d23 (by simp) ?h23 ?n23
            case e23 => simp only [List.getElem?_toArray, List.getElem?_cons_succ, List.getElem?_cons_zero]; exact rfl
            case w23 => exact rfl
            case d23 => exact rfl
            case h23 =>
              intro s9 w9 h9
              go_big_quiet_op
              exact rfl
            refine Qw.Chain.call (o := ?o24) 38 #[v', .int .u64 (X1 : Int), .int .i64 4] (fun v s => s = (v, LL ++ beL X1 4)) ?e24 ?w24 ?r24 ?c24 ?n24
            case e24 => simp only [List.getElem?_toArray, List.getElem?_cons_succ, List.getElem?_cons_zero]; exact rfl
            case w24 => exact rfl
            case r24 => intro w9; simp [execOp, Act.eval, Act.put, resolve, EN, go_sem]
            case c24 =>
              intro w9 h9
              refine (rput_any w Y w9 _ _ (LL) h9 X1 HX1.out 4 (by decide) (by have := HLL.out; omega)).mono ?_
              rintro e w8 ⟨v8, rfl, h8⟩
              exact ⟨v8, (v8, _), rfl, rfl, h8⟩
            rintro va24 s9 rfl
            refine Qw.Chain.call (o := ?o25) 38 #[va24, .int .u64 (X2 : Int), .int .i64 4] (fun v s => s = (v, LL ++ beL X1 4 ++ beL X2 4)) ?e25 ?w25 ?r25 ?c25 ?n25
            case e25 => simp only [List.getElem?_toArray, List.getElem?_cons_succ, List.getElem?_cons_zero]; exact rfl
            case w25 => exact rfl
            case r25 => intro w9; simp [execOp, Act.eval, Act.put, resolve, EN, go_sem]
            case c25 =>
              intro w9 h9
              refine (rput_any w Y w9 _ _ (LL ++ beL X1 4) h9 X2 HX2.out 4 (by decide) (by have := HLL.out; simp [beL_len]; omega)).mono ?_
              rintro e w8 ⟨v8, rfl, h8⟩
              exact ⟨v8, (v8, _), rfl, rfl, h8⟩
            rintro va25 s9 rfl
            refine Qw.Chain.call (o := ?o26) 38 #[va25, .int .u64 (X3 : Int), .int .i64 4] (fun v s => s = (v, LL ++ beL X1 4 ++ beL X2 4 ++ beL X3 4)) ?e26 ?w26 ?r26 ?c26 ?n26
            case e26 => simp only [List.getElem?_toArray, List.getElem?_cons_succ, List.getElem?_cons_zero]; exact rfl
            case w26 => exact rfl
            case r26 => intro w9; simp [execOp, Act.eval, Act.put, resolve, EN, go_sem]
            case c26 =>
              intro w9 h9
              refine (rput_any w Y w9 _ _ (LL ++ beL X1 4 ++ beL X2 4) h9 X3 HX3.out 4 (by decide) (by have := HLL.out; simp [beL_len]; omega)).mono ?_
              rintro e w8 ⟨v8, rfl, h8⟩
              exact ⟨v8, (v8, _), rfl, rfl, h8⟩
            rintro va26 s9 rfl
            intro w7 h7
            have H7 := Lib.hid (BK.out w7 va26 (LL ++ beL X1 4 ++ beL X2 4 ++ beL X3 4) h7)
            clear h7
            simp only [List.drop_succ_cons, List.drop_zero, Act.put, List.setIfInBounds_toArray, List.set_cons_succ, List.set_cons_zero]
            go_wp2_with fail
            go_roundg (n1 - (i + 1))
            case measure => have := HRR.out; have := HN1.out; omega
            case rel =>
              refine ⟨i + 1, _, by have := HRR.out; have := HN1.out; omega, rfl, by go_num, Lib.hid ?_⟩
              have h := H7.out
              rw [take_next ts i hi, ← HU.out, HE3.out, ← List.append_assoc L1, ← HLQ.out]
              simpa [List.append_assoc] using h
          · have d3 : decide (i < n1) = false := decide_eq_false (by have := HN1.out; omega)
            have d2 : decide ((i : Int) < (n1 : Int)) = false := decide_eq_false (by have := HN1.out; omega)
            have hin' := hin.out
            rw [List.take_of_length_le (by omega)] at hin'
            obtain ⟨L2, hL2⟩ : ∃ l, l = L1 ++ ts.flatMap be3t := ⟨_, rfl⟩
            rw [← hL2] at hin'
            have HI2 := Lib.hid hin'
            have HL2 := Lib.hid hL2
            have HL2n := Lib.hid (show L2.length = 12 + 24 * n0 + 12 * n1 by rw [hL2, List.length_append, flat3t_len, HL1n.out]; have := HN1.out; omega)
            clear hin hin' hL2
            go_wp2_with fail
            clear q1 d2 d3
            go_loopg [4, 9] n2 (fun r n4 n9 wr => ∃ (i : Nat) (v' : Value), i + r = n2 ∧ n4 = v' ∧ n9 = .int .i64 (i : Int) ∧ Hid (Ro w w1 (fun b => b = w.heap.size) v' (L2 ++ (bs.take i).flatMap be4) wr))
            case atStart => exact ⟨0, v', by omega, rfl, rfl, Lib.hid (by simpa using HI2.out)⟩
            case round =>
              obtain ⟨i, v', hir, hv4, rfl, hin⟩ := hrel
              have hv5 := hv4.symm
              subst hv5
              have q2 := cell_row ((hin.out.kept _ rfl).trans HR1.out) 2 (.slice a2 n2 c2) rfl
              by_cases hi : i < bs.length
              · have hv1 := R2.out.below hin.out.below (Nat.le_refl _)
                obtain ⟨b, off, e, hb, p0, p1, p2, p3⟩ := at4 hv1 i hi
                subst e
                obtain ⟨u, hu⟩ : ∃ u, u = bs[i] := ⟨_, rfl⟩
                rw [← hu] at p0 p1 p2 p3
                have HU := Lib.hid hu
                clear hu hv1
                have hin2 : (i : Int) < (n2 : Int) := by have := HN2.out; omega
                have d3 : decide (i < n2) = true := decide_eq_true (by have := HN2.out; omega)
                have d2 : decide ((i : Int) < (n2 : Int)) = true := decide_eq_true hin2
                obtain ⟨Y, hY⟩ : ∃ W, W = (wr.alloc (.cells #[.int .i64 0, .int .i64 0, .int .i64 0, .int .i64 0] 26)).setRow wr.heap.size #[.int .i64 u.c.x, .int .i64 u.c.y, .int .i64 u.c.z, .int .i64 u.r] := ⟨_, rfl⟩
                have hYB : Below wr.heap.size wr Y := by rw [hY]; exact below_setRow (ext_alloc _ _) (Nat.le_refl _) _
                have G := Lib.hid (show Y.heap[wr.heap.size]? = some (.cells #[.int .i64 u.c.x, .int .i64 u.c.y, .int .i64 u.c.z, .int .i64 u.r] 26) by rw [hY]; exact setRow_heap _ _ _ _ _ _ (heap_alloc_new _ _))
                have PY := Lib.hid (hin.out.step hYB)
                have HVV := Lib.hid hY
                have HRR := Lib.hid hir
                have HLL := Lib.hid (show (L2 ++ (bs.take i).flatMap be4).length ≤ 999999000 by rw [List.length_append, flat4_len, HL2n.out, List.length_take]; have := HL.out; have := HN2.out; omega)
                obtain ⟨LL, hLL⟩ : ∃ l, l = L2 ++ (bs.take i).flatMap be4 := ⟨_, rfl⟩
                rw [← hLL] at PY HLL
                have HLQ := Lib.hid hLL
                have RO0 := Lib.hid (show Ro w Y (fun b => b = w.heap.size ∨ b = wr.heap.size) v' LL Y from ⟨PY.out.own, PY.out.below, fun b hb => by
                  rcases hb with rfl | rfl
                  · exact PY.out.free _ rfl
                  · exact ⟨lt_of_heap G.out, fun e => by have := (hin.out.own.lt _ e).2; omega⟩, fun _ _ => rfl⟩)
                have BK := Lib.hid (fun (w' : World) (v : Value) (L : List Nat) (h : Ro w Y (fun b => b = w.heap.size ∨ b = wr.heap.size) v L w') => (show Ro w w1 (fun b => b = w.heap.size) v L w' from ⟨h.own, h.below, fun b hb => h.free b (.inl hb), fun b hb => (h.kept b (.inl hb)).trans (PY.out.kept b hb)⟩))
                clear hY hYB hir hLL
                obtain ⟨⟨x, y, z⟩, s⟩ := u
                go_upto_region 21 with (with_reducible refine store_recB rfl (.tmp 10) (.tmp 93) rfl rfl wr.heap.size x y z s rfl rfl _ (heap_alloc_new _ _) rfl ?_)
                rw [← HVV.out]
                clear HVV p0 p1 p2 p3 d2 d3 q2
                have ux := u64N_wrap x
                have uy := u64N_wrap y
                have uz := u64N_wrap z
                have us := u64N_wrap s
                obtain ⟨X1, hX1⟩ : ∃ X, X = u64N x := ⟨_, rfl⟩
                obtain ⟨X2, hX2⟩ : ∃ X, X = u64N y := ⟨_, rfl⟩
                obtain ⟨X3, hX3⟩ : ∃ X, X = u64N z := ⟨_, rfl⟩
                obtain ⟨X4, hX4⟩ : ∃ X, X = u64N s := ⟨_, rfl⟩
                have HX4 := Lib.hid (show X4 < 18446744073709551616 by rw [hX4]; exact u64N_lt _)
                have HX1 := Lib.hid (show X1 < 18446744073709551616 by rw [hX1]; exact u64N_lt _)
                have HX2 := Lib.hid (show X2 < 18446744073709551616 by rw [hX2]; exact u64N_lt _)
                have HX3 := Lib.hid (show X3 < 18446744073709551616 by rw [hX3]; exact u64N_lt _)
                have HE3 := Lib.hid (show be4 ⟨⟨x, y, z⟩, s⟩ = beL X1 8 ++ beL X2 8 ++ beL X3 8 ++ beL X4 8 by rw [hX1, hX2, hX3, hX4]; rfl)
                rw [← hX1] at ux
                rw [← hX2] at uy
                rw [← hX3] at uz
                rw [← hX4] at us
                clear hX1 hX2 hX3 hX4
                refine Qw.wp_region_writes 20 [0, 1, 2, 3, 4, 6, 7, 8, 9, 11, 12, 13, 14, 16, 17, 18] [5, 10, 15, 19] (fun (s : Value × List Nat) w2 => Ro w Y (fun b => b = w.heap.size ∨ b = wr.heap.size) s.1 s.2 w2) (v', LL) (by kernel_rfl) (by kernel_rfl) (RO0.out.step ⟨rfl, rfl, rfl, Nat.le_refl _, fun _ _ => rfl⟩) ?_
                refine Qw.Walk.step (A := ?A27) (o := ?o27) (fun s w w2 h hb => Ro.step h hb) (v', LL) Y RO0.out ?e27 ?w27 94 ?d27 (by simp) ?h27 ?n27
                case e27 => simp only [List.getElem?_toArray, List.getElem?_cons_succ, List.getElem?_cons_zero]; exact rfl
                case w27 => exact rfl
                case d27 => exact rfl
                case h27 =>
                  intro s9 w9 h9
                  go_big_quiet_op
                  exact rfl
                refine Qw.Walk.step (A := ?A28) (o := ?o28) (fun s w w2 h hb => Ro.step h hb) (v', LL) Y RO0.out ?e28 ?w28 95 ?d28 (by simp) ?h28 ?n28
                case e28 => simp only [List.getElem?_toArray, List.getElem?_cons_succ, List.getElem?_cons_zero]; exact rfl
                case w28 => exact rfl
                case d28 => exact rfl
                case h28 =>
                  intro s9 w9 h9
                  go_big_quiet_op
                  exact rfl
                refine Qw.Walk.step (A := ?A29) (o := ?o29) (fun s w w2 h hb => Ro.step h hb) (v', LL) Y RO0.out ?e29 ?w29 96 ?d29 (by simp) ?h29 ?n29
                case e29 => simp only [List.getElem?_toArray, List.getElem?_cons_succ, List.getElem?_cons_zero]; exact rfl
                case w29 => exact rfl
                case d29 => exact rfl
                case h29 =>
                  intro s9 w9 h9
                  go_big_quiet_op
                  exact rfl
                refine Qw.Walk.step (A := ?A30) (o := ?o30) (fun s w w2 h hb => Ro.step h hb) (v', LL) Y RO0.out ?e30 ?w30 97 ?d30 (by simp) ?h30 ?n30
                case e30 => simp only [List.getElem?_toArray, List.getElem?_cons_succ, List.getElem?_cons_zero]; exact rfl
                case w30 => exact rfl
                case d30 => exact rfl
                case h30 =>
                  intro s9 w9 h9
                  have e0 := cell_all ((h9.kept wr.heap.size (.inr rfl)).trans G.out) 0 (.int .i64 x) rfl
                  go_big_quiet_op
                  exact rfl
                refine Qw.Walk.step (A := ?A31) (o := ?o31) (fun s w w2 h hb => Ro.step h hb) (v', LL) Y RO0.out ?e31 ?w31 98 ?d31 (by simp) ?h31 ?n31
                case e31 => simp only [List.getElem?_toArray, List.getElem?_cons_succ, List.getElem?_cons_zero]; exact rfl
                case w31 => exact rfl
                case d31 => exact rfl
                case h31 =>
                  intro s9 w9 h9
                  go_big_quiet_op
                  exact rfl
                refine Qw.Walk.step (A := ?A32) (o := ?o32) (fun s w w2 h hb => Ro.step h hb) (v', LL) Y RO0.out ?e32 ?w32 100 ?d32 (by simp) ?h32 ?n32
                case e32 => simp only [List.getElem?_toArray, List.getElem?_cons_succ, List.getElem?_cons_zero]; exact rfl
                case w32 => exact rfl
                case d32 => exact rfl
                case h32 =>
                  intro s9 w9 h9
                  go_big_quiet_op
                  exact rfl
                refine Qw.Walk.step (A := ?A33) (o := ?o33) (fun s w w2 h hb => Ro.step h hb) (v', LL) Y RO0.out ?e33 ?w33 101 ?d33 (by simp) ?h33 ?n33
                case e33 => simp only [List.getElem?_toArray, List.getElem?_cons_succ, List.getElem?_cons_zero]; exact rfl
                case w33 => exact rfl
                case d33 => exact rfl
                case h33 =>
                  intro s9 w9 h9
                  go_big_quiet_op
                  exact rfl
                refine Qw.Walk.step (A := ?A34) (o := ?o34) (fun s w w2 h hb => Ro.step h hb) (v', LL) Y RO0.out ?e34 ?w34 102 ?d34 (by simp) ?h34 ?n34
                case e34 => simp only [List.getElem?_toArray, List.getElem?_cons_succ, List.getElem?_cons_zero]; exact rfl
                case w34 => exact rfl
                case d34 => exact rfl
                case h34 =>
                  intro s9 w9 h9
                  have e0 := cell_all ((h9.kept wr.heap.size (.inr rfl)).trans G.out) 1 (.int .i64 y) rfl
                  go_big_quiet_op
                  exact rfl
                refine Qw.Walk.step (A := ?A35) (o := ?o35) (fun s w w2 h hb => Ro.step h hb) (v', LL) Y RO0.out ?e35 ?w35 103 ?d35 (by simp) ?h35 ?n35
                case e35 => simp only [List.getElem?_toArray, List.getElem?_cons_succ, List.getElem?_cons_zero]; exact rfl
                case w35 => exact rfl
                case d35 => exact rfl
                case h35 =>
                  intro s9 w9 h9
                  go_big_quiet_op
                  exact rfl
                refine Qw.Walk.step (A := ?A36) (o := ?o36) (fun s w w2 h hb => Ro.step h hb) (v', LL) Y RO0.out ?e36 ?w36 105 ?d36 (by simp) ?h36 ?n36
                case e36 => simp only [List.getElem?_toArray, List.getElem?_cons_succ, List.getElem?_cons_zero]; exact rfl
                case w36 => exact rfl
                case d36 => exact rfl
                case h36 =>
                  intro s9 w9 h9
                  go_big_quiet_op
                  exact rfl
                refine Qw.Walk.step (A := ?A37) (o := ?o37) (fun s w w2 h hb => Ro.step h hb) (v', LL) Y RO0.out ?e37 ?w37 106 ?d37 (by simp) ?h37 ?n37
                case e37 => simp only [List.getElem?_toArray, List.getElem?_cons_succ, List.getElem?_cons_zero]; exact rfl
                case w37 => exact rfl
                case d37 => exact rfl
                case h37 =>
                  intro s9 w9 h9
                  go_big_quiet_op
                  exact rfl
                refine Qw.Walk.step (A := ?A38) (o := ?o38) (fun s w w2 h hb => Ro.step h hb) (v', LL) Y RO0.out ?e38 ?w38 107 ?d38 (by simp) ?h38 ?n38
                case e38 => simp only [List.getElem?_toArray, List.getElem?_cons_succ, List.getElem?_cons_zero]; exact rfl
                case w38 => exact rfl
                case d38 => exact rfl
                case h38 =>
                  intro s9 w9 h9
                  have e0 := cell_all ((h9.kept wr.heap.size (.inr rfl)).trans G.out) 2 (.int .i64 z) rfl
                  go_big_quiet_op
                  exact rfl
                refine Qw.Walk.step (A := ?A39) (o := ?o39) (fun s w w2 h hb => Ro.step h hb) (v', LL) Y RO0.out ?e39 ?w39 108 ?d39 (by simp) ?h39 ?n39
                case e39 => simp only [List.getElem?_toArray, List.getElem?_cons_succ, List.getElem?_cons_zero]; exact rfl
                case w39 => exact rfl
                case d39 => exact rfl
                case h39 =>
                  intro s9 w9 h9
                  go_big_quiet_op
                  exact rfl
                refine Qw.Walk.step (A := ?A40) (o := ?o40) (fun s w w2 h hb => Ro.step h hb) (v', LL) Y RO0.out ?e40 ?w40 110 ?d40 (by simp) ?h40 ?n40
                case e40 => simp only [List.getElem?_toArray, List.getElem?_cons_succ, List.getElem?_cons_zero]; exact rfl
                case w40 => exact rfl
                case d40 => exact rfl
                case h40 =>
                  intro s9 w9 h9
                  go_big_quiet_op
                  exact rfl
                refine Qw.Walk.step (A := ?A41) (o := ?o41) (fun s w w2 h hb => Ro.step h hb) (v', LL) Y RO0.out ?e41 ?w41 111 ?d41 (by simp) ?h41 ?n41
                case e41 => simp only [List.getElem?_toArray, List.getElem?_cons_succ, List.getElem?_cons_zero]; exact rfl
                case w41 => exact rfl
                case d41 => exact rfl
                case h41 =>
                  intro s9 w9 h9
                  have e0 := cell_all ((h9.kept wr.heap.size (.inr rfl)).trans G.out) 3 (.int .i64 s) rfl
                  go_big_quiet_op
                  exact rfl
                refine Qw.Walk.step (A := ?A42) (o := ?o42) (fun s w w2 h hb => Ro.step h hb) (v', LL) Y RO0.out ?e42 ?w42 112 ?d42 (by simp) ?h42 ?n42
                case e42 => simp only [List.getElem?_toArray, List.getElem?_cons_succ, List.getElem?_cons_zero]; exact rfl
                case w42 => exact rfl
                case d42 => exact rfl
                case h42 =>
                  intro s9 w9 h9
                  go_big_quiet_op
                  exact rfl
                refine Qw.Chain.call (o := ?o43) 38 #[v', .int .u64 (X1 : Int), .int .i64 8] (fun v s => s = (v, LL ++ beL X1 8)) ?e43 ?w43 ?r43 ?c43 ?n43
                case e43 => simp only [List.getElem?_toArray, List.getElem?_cons_succ, List.getElem?_cons_zero]; exact rfl
                case w43 => exact rfl
                case r43 => intro w9; simp [execOp, Act.eval, Act.put, resolve, EN, go_sem]
                case c43 =>
                  intro w9 h9
                  refine (rput_any w Y w9 _ _ (LL) h9 X1 HX1.out 8 (by decide) (by have := HLL.out; omega)).mono ?_
                  rintro e w8 ⟨v8, rfl, h8⟩
                  exact ⟨v8, (v8, _), rfl, rfl, h8⟩
                rintro va43 s9 rfl
                refine Qw.Chain.call (o := ?o44) 38 #[va43, .int .u64 (X2 : Int), .int .i64 8] (fun v s => s = (v, LL ++ beL X1 8 ++ beL X2 8)) ?e44 ?w44 ?r44 ?c44 ?n44
                case e44 => simp only [List.getElem?_toArray, List.getElem?_cons_succ, List.getElem?_cons_zero]; exact rfl
                case w44 => exact rfl
                case r44 => intro w9; simp [execOp, Act.eval, Act.put, resolve, EN, go_sem]
                case c44 =>
                  intro w9 h9
                  refine (rput_any w Y w9 _ _ (LL ++ beL X1 8) h9 X2 HX2.out 8 (by decide) (by have := HLL.out; simp [beL_len]; omega)).mono ?_
                  rintro e w8 ⟨v8, rfl, h8⟩
                  exact ⟨v8, (v8, _), rfl, rfl, h8⟩
                rintro va44 s9 rfl
                refine Qw.Chain.call (o := ?o45) 38 #[va44, .int .u64 (X3 : Int), .int .i64 8] (fun v s => s = (v, LL ++ beL X1 8 ++ beL X2 8 ++ beL X3 8)) ?e45 ?w45 ?r45 ?c45 ?n45
                case e45 => simp only [List.getElem?_toArray, List.getElem?_cons_succ, List.getElem?_cons_zero]; exact rfl
                case w45 => exact rfl
                case r45 => intro w9; simp [execOp, Act.eval, Act.put, resolve, EN, go_sem]
                case c45 =>
                  intro w9 h9
                  refine (rput_any w Y w9 _ _ (LL ++ beL X1 8 ++ beL X2 8) h9 X3 HX3.out 8 (by decide) (by have := HLL.out; simp [beL_len]; omega)).mono ?_
                  rintro e w8 ⟨v8, rfl, h8⟩
                  exact ⟨v8, (v8, _), rfl, rfl, h8⟩
                rintro va45 s9 rfl
                refine Qw.Chain.call (o := ?o46) 38 #[va45, .int .u64 (X4 : Int), .int .i64 8] (fun v s => s = (v, LL ++ beL X1 8 ++ beL X2 8 ++ beL X3 8 ++ beL X4 8)) ?e46 ?w46 ?r46 ?c46 ?n46
                case e46 => simp only [List.getElem?_toArray, List.getElem?_cons_succ, List.getElem?_cons_zero]; exact rfl
                case w46 => exact rfl
                case r46 => intro w9; simp [execOp, Act.eval, Act.put, resolve, EN, go_sem]
                case c46 =>
                  intro w9 h9
                  refine (rput_any w Y w9 _ _ (LL ++ beL X1 8 ++ beL X2 8 ++ beL X3 8) h9 X4 HX4.out 8 (by decide) (by have := HLL.out; simp [beL_len]; omega)).mono ?_
                  rintro e w8 ⟨v8, rfl, h8⟩
                  exact ⟨v8, (v8, _), rfl, rfl, h8⟩
                rintro va46 s9 rfl
                intro w7 h7
                have H7 := Lib.hid (BK.out w7 va46 (LL ++ beL X1 8 ++ beL X2 8 ++ beL X3 8 ++ beL X4 8) h7)
                clear h7
                simp only [List.drop_succ_cons, List.drop_zero, Act.put, List.setIfInBounds_toArray, List.set_cons_succ, List.set_cons_zero]
                go_wp2_with fail
                go_roundg (n2 - (i + 1))
                case measure => have := HRR.out; have := HN2.out; omega
                case rel =>
                  refine ⟨i + 1, _, by have := HRR.out; have := HN2.out; omega, rfl, by go_num, Lib.hid ?_⟩
                  have h := H7.out
                  rw [take_next bs i hi, ← HU.out, HE3.out, ← List.append_assoc L2, ← HLQ.out]
                  simpa [List.append_assoc] using h
              · have d3 : decide (i < n2) = false := decide_eq_false (by have := HN2.out; omega)
                have d2 : decide ((i : Int) < (n2 : Int)) = false := decide_eq_false (by have := HN2.out; omega)
                have hin' := hin.out
                rw [List.take_of_length_le (by omega)] at hin'
                have HI3 := Lib.hid hin'
                clear hin hin'
                go_wp2_with fail
                rw [HO.out]
                exact ⟨v', rfl, by rw [HBF.out, ← HL0.out, ← HL1.out, ← HL2.out]; exact HI3.out.own, HI3.out.below⟩
  · have he := HOF.out (by decide)
    subst he
    clear HNT HOF HOF2
    go_wp2_with fail
    rw [HO.out]
    exact ⟨_, rfl, Own.nil _ _ _ _ _, HB1.out⟩
end Go.Proofs.Ytdmmjmdnljhooaa.MeshI
