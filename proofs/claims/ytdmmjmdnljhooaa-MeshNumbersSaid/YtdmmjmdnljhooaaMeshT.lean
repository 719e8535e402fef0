/- The walk of SameMesh, two equal meshes. -/
import Derived.Test.YtdmmjmdnljhooaaMeshS
set_option linter.unusedVariables false
set_option linter.unusedSimpArgs false
namespace Go.Proofs.Ytdmmjmdnljhooaa.MeshT
open Go.RowKit Go.Sort FixM Base Num FixW Qb Qt Qa VecW VecV VecU LightQ LightC MeshM Rec MeshA MeshB MeshC MeshD MeshE MeshP MeshEq MeshL MeshS
theorem same_vec (x y z : Int) (w : World) : (Op.equalIn 10000 23 (.agg #[.int .i64 x, .int .i64 y, .int .i64 z]) (.agg #[.int .i64 x, .int .i64 y, .int .i64 z])).run Try.prog w = .ok true w := by
  have := eq_vec 9998 ⟨x, y, z⟩ ⟨x, y, z⟩ w
  simpa using this
theorem same_tri (x y z : Int) (w : World) : (Op.equalIn 10000 31 (.agg #[.int .i64 x, .int .i64 y, .int .i64 z]) (.agg #[.int .i64 x, .int .i64 y, .int .i64 z])).run Try.prog w = .ok true w := by
  have := eq_tri ⟨x, y, z⟩ ⟨x, y, z⟩ w
  simpa using this
theorem same_ball (x y z r : Int) (w : World) : (Op.equalIn 10000 26 (.agg #[.int .i64 x, .int .i64 y, .int .i64 z, .int .i64 r]) (.agg #[.int .i64 x, .int .i64 y, .int .i64 z, .int .i64 r])).run Try.prog w = .ok true w := by
  have := eq_ball ⟨⟨x, y, z⟩, r⟩ ⟨⟨x, y, z⟩, r⟩ w
  simpa using this

set_option maxRecDepth 100000 in
set_option maxHeartbeats 8000000 in
theorem sameMesh_eq (v u : Value) (m : Msh) (w : World) (hv : IsMesh w v m) (hu : IsMesh w u m) : Calls Try.prog 22 #[v, u] w (VTo (.bool true) w) := by
  obtain ⟨a0, c0, a1, c1, a2, c2, rfl, h0, h1, h2, l0, l1, l2⟩ := hv.open_
  obtain ⟨a3, c3, a4, c4, a5, c5, rfl, h3, h4, h5, _, _, _⟩ := hu.open_
  obtain ⟨W, hW⟩ : ∃ W, W = (w.alloc (.cells #[.slice a0 m.ps.length c0, .slice a1 m.ts.length c1, .slice a2 m.bs.length c2] 30)).alloc (.cells #[.slice a3 m.ps.length c3, .slice a4 m.ts.length c4, .slice a5 m.bs.length c5] 30) := ⟨_, rfl⟩
  have hB : Below w.heap.size w W := by rw [hW]; exact alloc2_below _ _ _
  have hR : W.heap[w.heap.size]? = some (.cells #[.slice a0 m.ps.length c0, .slice a1 m.ts.length c1, .slice a2 m.bs.length c2] 30) := by rw [hW]; exact alloc2_0 _ _ _
  have hU : W.heap[w.heap.size + 1]? = some (.cells #[.slice a3 m.ps.length c3, .slice a4 m.ts.length c4, .slice a5 m.bs.length c5] 30) := by rw [hW]; exact alloc2_1 _ _ _
  have R0 := Lib.hid (h0.below hB (Nat.le_refl _))
  have R1 := Lib.hid (h1.below hB (Nat.le_refl _))
  have R2 := Lib.hid (h2.below hB (Nat.le_refl _))
  have R3 := Lib.hid (h3.below hB (Nat.le_refl _))
  have R4 := Lib.hid (h4.below hB (Nat.le_refl _))
  have R5 := Lib.hid (h5.below hB (Nat.le_refl _))
  obtain ⟨ps, ts, bs⟩ := m
  dsimp only at *
  obtain ⟨n0, hn0⟩ : ∃ n, n = ps.length := ⟨_, rfl⟩
  obtain ⟨n1, hn1⟩ : ∃ n, n = ts.length := ⟨_, rfl⟩
  obtain ⟨n2, hn2⟩ : ∃ n, n = bs.length := ⟨_, rfl⟩
  rw [← hn0, ← hn1, ← hn2] at hR hU hW
  rw [← hn0] at l0 R0 R3
  rw [← hn1] at l1 R1 R4
  rw [← hn2] at l2 R2 R5
  rw [← hn0, ← hn1, ← hn2]
  have HN0 := Lib.hid hn0
  have HN1 := Lib.hid hn1
  have HN2 := Lib.hid hn2
  have HR := Lib.hid hR
  have HU := Lib.hid hU
  have HB := Lib.hid hB
  have HWW := Lib.hid hW
  have k0 := cell_row hR 0 (.slice a0 n0 c0) rfl
  have k1 := cell_row hR 1 (.slice a1 n1 c1) rfl
  have k2 := cell_row hR 2 (.slice a2 n2 c2) rfl
  have k3 := cell_row hU 0 (.slice a3 n0 c3) rfl
  have k4 := cell_row hU 1 (.slice a4 n1 c4) rfl
  have k5 := cell_row hU 2 (.slice a5 n2 c5) rfl
  rw [hW] at k0 k1 k2 k3 k4 k5
  clear hn0 hn1 hn2 hR hU hB hW hv hu h0 h1 h2 h3 h4 h5
  have SV := same_vec
  have ST := same_tri
  have SB := same_ball
  go_enter Try.func22, Try.ntmps22
  go_wp2_with fail
  rw [← HWW.out]
  clear k0 k1 k2 k3 k4 k5 HWW
  go_loopg [5] n0 (fun r n9 wr => ∃ i : Nat, i + r = n0 ∧ n9 = .int .i64 (i : Int) ∧ Hid (Below W.heap.size W wr))
  case atStart => exact ⟨0, by omega, rfl, Lib.hid (Below.refl _ _)⟩
  case round =>
    obtain ⟨i, hir, rfl, hin⟩ := hrel
    have q0 := cell_row (vec_step HR.out hin.out) 0 (.slice a0 n0 c0) rfl
    have q1 := cell_row (vec_step HU.out hin.out) 0 (.slice a3 n0 c3) rfl
    by_cases hi : i < ps.length
    · have hin0 : i < n0 := by rw [HN0.out]; exact hi
      have hi2 : (i : Int) < (n0 : Int) := by omega
      have d3 : decide (i < n0) = true := decide_eq_true hin0
      have d2 : decide ((i : Int) < (n0 : Int)) = true := decide_eq_true hi2
      have wi : IntKind.i64.wrap ((i : Int) + 1) = (i : Int) + 1 := by rw [wrap_in (by omega) (by omega)]
      obtain ⟨⟨x, y, z⟩, ht⟩ : ∃ p, p = ps[i] := ⟨_, rfl⟩
      obtain ⟨b, off, e, hbl, p0, p1, p2⟩ := at3 (R0.out.below hin.out (Nat.le_refl _)) i hi
      subst e
      obtain ⟨b', off', e, hbl', s0, s1, s2⟩ := at3 (R3.out.below hin.out (Nat.le_refl _)) i hi
      subst e
      rw [← ht] at p0 s0 p1 s1 p2 s2
      dsimp only at p0 s0 p1 s1 p2 s2
      have HRR := Lib.hid hir
      have HII := Lib.hid hi2
      clear ht hbl hbl' hir
      go_upto_region 6 with (fail)
      have f0 := fun d os => cell_regrown q0 d os
      have f1 := fun d os => cell_regrown q1 d os
      have fp0 := fun d os => cell_regrown p0 d os
      have fp1 := fun d os => cell_regrown p1 d os
      have fp2 := fun d os => cell_regrown p2 d os
      have fs0 := fun d os => cell_regrown s0 d os
      have fs1 := fun d os => cell_regrown s1 d os
      have fs2 := fun d os => cell_regrown s2 d os
      clear q0 q1 p0 s0 p1 s1 p2 s2
      refine wp_region_quiet_below (by kernel_rfl) (by kernel_rfl) ?_
      repeat (go_big_quiet_step (fail))
      refine wpQuiet_nil ?_
      rintro _ ⟨⟨dq, osq⟩, rfl⟩
      have HQ := Lib.hid (hin.out.trans ((below_regrown wr dq osq).mono hin.out.size))
      have u0 := cell_row (vec_step HR.out HQ.out) 0 (.slice (some ⟨b, off, none⟩) n0 c0) rfl
      clear f0 f1 fp0 fs0 fp1 fs1 fp2 fs2
      go_wp2_with fail
      go_roundg (n0 - (i + 1))
      case measure => have := HRR.out; omega
      case rel => exact ⟨i + 1, by have := HRR.out; omega, by go_num, HQ⟩
    · have hin0 : ¬ i < n0 := by rw [HN0.out]; exact hi
      have d3 : decide (i < n0) = false := decide_eq_false hin0
      have d2 : decide ((i : Int) < (n0 : Int)) = false := decide_eq_false (by omega)
      have HIN := Lib.hid (show Below W.heap.size W wr from hin.out)
      have z0 := cell_row (vec_step HR.out hin.out) 1 (.slice a1 n1 c1) rfl
      clear hir hin hi hin0 q1
      go_wp2_with fail
      clear q0 d2 d3
      go_loopg [6] n1 (fun r n9 wr => ∃ i : Nat, i + r = n1 ∧ n9 = .int .i64 (i : Int) ∧ Hid (Below W.heap.size W wr))
      case atStart => exact ⟨0, by omega, rfl, HIN⟩
      case round =>
        obtain ⟨i, hir, rfl, hin⟩ := hrel
        have q0 := cell_row (vec_step HR.out hin.out) 1 (.slice a1 n1 c1) rfl
        have q1 := cell_row (vec_step HU.out hin.out) 1 (.slice a4 n1 c4) rfl
        by_cases hi : i < ts.length
        · have hin0 : i < n1 := by rw [HN1.out]; exact hi
          have hi2 : (i : Int) < (n1 : Int) := by omega
          have d3 : decide (i < n1) = true := decide_eq_true hin0
          have d2 : decide ((i : Int) < (n1 : Int)) = true := decide_eq_true hi2
          have wi : IntKind.i64.wrap ((i : Int) + 1) = (i : Int) + 1 := by rw [wrap_in (by omega) (by omega)]
          obtain ⟨⟨x, y, z⟩, ht⟩ : ∃ p, p = ts[i] := ⟨_, rfl⟩
          obtain ⟨b, off, e, hbl, p0, p1, p2⟩ := at3 (R1.out.below hin.out (Nat.le_refl _)) i hi
          subst e
          obtain ⟨b', off', e, hbl', s0, s1, s2⟩ := at3 (R4.out.below hin.out (Nat.le_refl _)) i hi
          subst e
          rw [← ht] at p0 s0 p1 s1 p2 s2
          dsimp only at p0 s0 p1 s1 p2 s2
          have HRR := Lib.hid hir
          have HII := Lib.hid hi2
          clear ht hbl hbl' hir
          go_upto_region 11 with (fail)
          have f0 := fun d os => cell_regrown q0 d os
          have f1 := fun d os => cell_regrown q1 d os
          have fp0 := fun d os => cell_regrown p0 d os
          have fp1 := fun d os => cell_regrown p1 d os
          have fp2 := fun d os => cell_regrown p2 d os
          have fs0 := fun d os => cell_regrown s0 d os
          have fs1 := fun d os => cell_regrown s1 d os
          have fs2 := fun d os => cell_regrown s2 d os
          clear q0 q1 p0 s0 p1 s1 p2 s2
          refine wp_region_quiet_below (by kernel_rfl) (by kernel_rfl) ?_
          repeat (go_big_quiet_step (fail))
          refine wpQuiet_nil ?_
          rintro _ ⟨⟨dq, osq⟩, rfl⟩
          have HQ := Lib.hid (hin.out.trans ((below_regrown wr dq osq).mono hin.out.size))
          have u0 := cell_row (vec_step HR.out HQ.out) 1 (.slice (some ⟨b, off, none⟩) n1 c1) rfl
          clear f0 f1 fp0 fs0 fp1 fs1 fp2 fs2
          go_wp2_with fail
          go_roundg (n1 - (i + 1))
          case measure => have := HRR.out; omega
          case rel => exact ⟨i + 1, by have := HRR.out; omega, by go_num, HQ⟩
        · have hin0 : ¬ i < n1 := by rw [HN1.out]; exact hi
          have d3 : decide (i < n1) = false := decide_eq_false hin0
          have d2 : decide ((i : Int) < (n1 : Int)) = false := decide_eq_false (by omega)
          have HIN := Lib.hid (show Below W.heap.size W wr from hin.out)
          have z0 := cell_row (vec_step HR.out hin.out) 2 (.slice a2 n2 c2) rfl
          clear hir hin hi hin0 q1
          go_wp2_with fail
          clear q0 d2 d3
          go_loopg [7] n2 (fun r n9 wr => ∃ i : Nat, i + r = n2 ∧ n9 = .int .i64 (i : Int) ∧ Hid (Below W.heap.size W wr))
          case atStart => exact ⟨0, by omega, rfl, HIN⟩
          case round =>
            obtain ⟨i, hir, rfl, hin⟩ := hrel
            have q0 := cell_row (vec_step HR.out hin.out) 2 (.slice a2 n2 c2) rfl
            have q1 := cell_row (vec_step HU.out hin.out) 2 (.slice a5 n2 c5) rfl
            by_cases hi : i < bs.length
            · have hin0 : i < n2 := by rw [HN2.out]; exact hi
              have hi2 : (i : Int) < (n2 : Int) := by omega
              have d3 : decide (i < n2) = true := decide_eq_true hin0
              have d2 : decide ((i : Int) < (n2 : Int)) = true := decide_eq_true hi2
              have wi : IntKind.i64.wrap ((i : Int) + 1) = (i : Int) + 1 := by rw [wrap_in (by omega) (by omega)]
              obtain ⟨⟨⟨x, y, z⟩, r⟩, ht⟩ : ∃ p, p = bs[i] := ⟨_, rfl⟩
              obtain ⟨b, off, e, hbl, p0, p1, p2, p3⟩ := at4 (R2.out.below hin.out (Nat.le_refl _)) i hi
              subst e
              obtain ⟨b', off', e, hbl', s0, s1, s2, s3⟩ := at4 (R5.out.below hin.out (Nat.le_refl _)) i hi
              subst e
              rw [← ht] at p0 s0 p1 s1 p2 s2 p3 s3
              dsimp only at p0 s0 p1 s1 p2 s2 p3 s3
              have HRR := Lib.hid hir
              have HII := Lib.hid hi2
              clear ht hbl hbl' hir
              go_upto_region 16 with (fail)
              have f0 := fun d os => cell_regrown q0 d os
              have f1 := fun d os => cell_regrown q1 d os
              have fp0 := fun d os => cell_regrown p0 d os
              have fp1 := fun d os => cell_regrown p1 d os
              have fp2 := fun d os => cell_regrown p2 d os
              have fp3 := fun d os => cell_regrown p3 d os
              have fs0 := fun d os => cell_regrown s0 d os
              have fs1 := fun d os => cell_regrown s1 d os
              have fs2 := fun d os => cell_regrown s2 d os
              have fs3 := fun d os => cell_regrown s3 d os
              clear q0 q1 p0 s0 p1 s1 p2 s2 p3 s3
              refine wp_region_quiet_below (by kernel_rfl) (by kernel_rfl) ?_
              repeat (go_big_quiet_step (fail))
              refine wpQuiet_nil ?_
              rintro _ ⟨⟨dq, osq⟩, rfl⟩
              have HQ := Lib.hid (hin.out.trans ((below_regrown wr dq osq).mono hin.out.size))
              have u0 := cell_row (vec_step HR.out HQ.out) 2 (.slice (some ⟨b, off, none⟩) n2 c2) rfl
              clear f0 f1 fp0 fs0 fp1 fs1 fp2 fs2 fp3 fs3
              go_wp2_with fail
              go_roundg (n2 - (i + 1))
              case measure => have := HRR.out; omega
              case rel => exact ⟨i + 1, by have := HRR.out; omega, by go_num, HQ⟩
            · have hin0 : ¬ i < n2 := by rw [HN2.out]; exact hi
              have d3 : decide (i < n2) = false := decide_eq_false hin0
              have d2 : decide ((i : Int) < (n2 : Int)) = false := decide_eq_false (by omega)
              have HIN := Lib.hid (show Below W.heap.size W wr from hin.out)
              have z0 := cell_row (vec_step HR.out hin.out) 2 (.slice a2 n2 c2) rfl
              clear hir hin hi hin0 q1
              go_wp2_with fail
              clear q0 d2 d3
              go_ret
              exact ⟨rfl, HB.out.trans (HIN.out.mono HB.out.size)⟩

end Go.Proofs.Ytdmmjmdnljhooaa.MeshT
