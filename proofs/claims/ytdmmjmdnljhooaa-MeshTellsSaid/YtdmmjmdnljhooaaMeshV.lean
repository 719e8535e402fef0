/- The walk of law12's MeshTells. -/
import Derived.Test.YtdmmjmdnljhooaaMeshU
import Derived.Test.YtdmmjmdnljhooaaMeshR
import Derived.Test.YtdmmjmdnljhooaaMeshI
import Derived.Test.YtdmmjmdnljhooaaMeshN
set_option linter.unusedVariables false
set_option linter.unusedSimpArgs false
namespace Go.Proofs.Ytdmmjmdnljhooaa.MeshV
open Go.RowKit Go.Sort FixM Base Num FixW Qb Qt Qa VecW VecV VecU LightQ LightC MeshM Rec MeshA MeshB MeshC MeshD MeshE MeshP MeshR MeshEq MeshL MeshN MeshS MeshT MeshF MeshG MeshI MeshU Low

set_option maxRecDepth 100000 in
set_option maxHeartbeats 16000000 in
theorem tells_any (v : Value) (m : Msh) (ok : m.ok) (at' : Int) (hat : In at') (b : Value) (l : List Nat) (w : World) (hm : IsMesh w v m) (hl : Nums .u8 256 w b l) : Calls Try.prog 4 #[v, .int .i64 at', b] w (AwTo w) := by
  obtain ⟨ab, cb, rfl, -, -⟩ := hl.shape
  have CS := Lib.hid (fun w' (hb : Below w.heap.size w w') => smallMesh_any v m w' (hm.below hb) 60)
  obtain ⟨S, hS⟩ : ∃ S, S = (decide ((m.ps.length : Int) ≤ 60) && decide ((m.ts.length : Int) ≤ 60) && decide ((m.bs.length : Int) ≤ 60)) := ⟨_, rfl⟩
  rw [← hS] at CS
  obtain ⟨a0, c0, a1, c1, a2, c2, rfl, -⟩ := hm.open_
  obtain ⟨W, hW⟩ : ∃ W, W = w.alloc (.cells #[.slice a0 m.ps.length c0, .slice a1 m.ts.length c1, .slice a2 m.bs.length c2] 30) := ⟨_, rfl⟩
  have hB : Below w.heap.size w W := by rw [hW]; exact ext_alloc _ _
  have hR : W.heap[w.heap.size]? = some (.cells #[.slice a0 m.ps.length c0, .slice a1 m.ts.length c1, .slice a2 m.bs.length c2] 30) := by rw [hW]; exact heap_alloc_new _ _
  have k0 := cell_row hR 0 _ rfl
  have k1 := cell_row hR 1 _ rfl
  have k2 := cell_row hR 2 _ rfl
  have HR0 := Lib.hid hR
  have HB0 := Lib.hid hB
  have HM0 := Lib.hid (hm.below hB)
  have HL0 := Lib.hid (hl.below hB (Nat.le_refl _))
  have HS := Lib.hid hS
  have HWW := Lib.hid hW
  rw [hW] at k0 k1 k2
  have AW := Lib.hid awake_any
  clear hR hB hW hS hm hl
  cases S
  · go_enter Try.func4, Try.ntmps4
    go_wp2_with fail
    rw [← HWW.out]
    clear k0 k1 k2
    refine (CS.out _ HB0.out).mono ?_
    rintro e w1 ⟨rfl, hb1⟩
    have HB1 := Lib.hid (HB0.out.trans (hb1.mono HB0.out.size))
    clear hb1 HB0
    go_wp2_with fail
    refine (AW.out _).mono ?_
    rintro e w2 ⟨rfl, hb2⟩
    have HB2 := Lib.hid (HB1.out.trans (hb2.mono HB1.out.size))
    clear hb2 HB1
    go_wp2_with fail
    go_ret
    exact ⟨rfl, HB2.out⟩
  by_cases h2 : 2000 < l.length
  · have d1 : decide (2000 < (l.length : Int)) = true := decide_eq_true (by omega)
    clear h2
    go_enter Try.func4, Try.ntmps4
    go_wp2_with fail
    rw [← HWW.out]
    clear k0 k1 k2
    refine (CS.out _ HB0.out).mono ?_
    rintro e w1 ⟨rfl, hb1⟩
    have HB1 := Lib.hid (HB0.out.trans (hb1.mono HB0.out.size))
    clear hb1 HB0
    go_wp2_with fail
    refine (AW.out _).mono ?_
    rintro e w2 ⟨rfl, hb2⟩
    have HB2 := Lib.hid (HB1.out.trans (hb2.mono HB1.out.size))
    clear hb2 HB1
    go_wp2_with fail
    go_ret
    exact ⟨rfl, HB2.out⟩
  have HT : Hid (m.ps.length ≤ 60 ∧ m.ts.length ≤ 60 ∧ m.bs.length ≤ 60) := Lib.hid (by
    have := HS.out.symm
    simp only [Bool.and_eq_true, decide_eq_true_eq] at this
    omega)
  have HLL := Lib.hid (show l.length ≤ 1000000 by omega)
  have HTB := Lib.hid (show m.ts.length + m.bs.length ≤ 9223372036854775807 by have := HT.out; omega)
  have HOK := Lib.hid ok
  have HAT := Lib.hid hat
  have d1 : decide (2000 < (l.length : Int)) = false := decide_eq_false (by omega)
  clear h2 HS ok hat
  go_enter Try.func4, Try.ntmps4
  go_wp2_with fail
  rw [← HWW.out]
  clear k0 k1 k2 HWW
  refine (CS.out _ HB0.out).mono ?_
  rintro e w1 ⟨rfl, hb⟩
  have HB1 := Lib.hid (HB0.out.trans (hb.mono HB0.out.size))
  have HM1 := Lib.hid (HM0.out.below hb)
  have HR1 := Lib.hid (vec_step HR0.out hb)
  have HL1 := Lib.hid (HL0.out.below hb (Nat.le_refl _))
  clear HB0 HM0 HR0 HL0 hb CS
  have k0 := cell_row HR1.out 0 _ rfl
  have k1 := cell_row HR1.out 1 _ rfl
  have k2 := cell_row HR1.out 2 _ rfl
  go_wp2_with fail
  refine (copyMesh_any _ m _ HM1.out (by have := HT.out; omega) (by have := HT.out; omega) (by have := HT.out; omega)).mono ?_
  rintro e w2 ⟨v2, rfl, hm2, hb⟩
  obtain ⟨a3, c3, a4, c4, a5, c5, rfl, -⟩ := hm2.open_
  clear k0 k1 k2
  have HB2 := Lib.hid (HB1.out.trans (hb.mono HB1.out.size))
  have HM2 := Lib.hid (HM1.out.below hb)
  have HR2 := Lib.hid (vec_step HR1.out hb)
  have HL2 := Lib.hid (HL1.out.below hb (Nat.le_refl _))
  clear HB1 HM1 HR1 HL1 hb 
  have HI2 := Lib.hid (hm2)
  clear hm2
  go_upto_region 4 with (fail)
  have hx := ext_alloc w2 (.cells #[.slice a3 m.ps.length c3, .slice a4 m.ts.length c4, .slice a5 m.bs.length c5] 30)
  have hn := heap_alloc_new w2 (.cells #[.slice a3 m.ps.length c3, .slice a4 m.ts.length c4, .slice a5 m.bs.length c5] 30)
  obtain ⟨w3, hW⟩ : ∃ W, W = w2.alloc (.cells #[.slice a3 m.ps.length c3, .slice a4 m.ts.length c4, .slice a5 m.bs.length c5] 30) := ⟨_, rfl⟩
  rw [← hW] at hx hn ⊢
  clear hW
  have HB3 := Lib.hid (HB2.out.trans (hx.mono HB2.out.size))
  have HM3 := Lib.hid (HM2.out.below hx)
  have HR3 := Lib.hid (vec_step HR2.out hx)
  have HL3 := Lib.hid (HL2.out.below hx (Nat.le_refl _))
  have HI3 := Lib.hid (HI2.out.below hx)
  clear HB2 HM2 HR2 HL2 HI2 hx 
  have HJ3 := Lib.hid (hn)
  clear hn
  generalize w2.heap.size = g7 at HJ3 ⊢
  have k0 := cell_row HJ3.out 0 _ rfl
  have k1 := cell_row HJ3.out 1 _ rfl
  have k2 := cell_row HJ3.out 2 _ rfl
  go_wp2_with fail
  clear k0 k1 k2
  refine (bytes_any _ m _ HI3.out).mono ?_
  rintro e w4 ⟨x, rfl, ho, hb⟩
  have HB4 := Lib.hid (HB3.out.trans (hb.mono HB3.out.size))
  have HM4 := Lib.hid (HM3.out.below hb)
  have HR4 := Lib.hid (vec_step HR3.out hb)
  have HL4 := Lib.hid (HL3.out.below hb (Nat.le_refl _))
  have HI4 := Lib.hid (HI3.out.below hb)
  have HJ4 := Lib.hid (vec_step HJ3.out hb)
  clear HB3 HM3 HR3 HL3 HI3 HJ3 hb 
  have HX4 := Lib.hid (ho.nums)
  clear ho
  have k0 := cell_row HR4.out 0 _ rfl
  have k1 := cell_row HR4.out 1 _ rfl
  have k2 := cell_row HR4.out 2 _ rfl
  go_wp2_with fail
  clear k0 k1 k2
  refine (rbytes_any _ m _ HM4.out HTB.out).mono ?_
  rintro e w5 ⟨y, rfl, ho, hb⟩
  have HB5 := Lib.hid (HB4.out.trans (hb.mono HB4.out.size))
  have HM5 := Lib.hid (HM4.out.below hb)
  have HR5 := Lib.hid (vec_step HR4.out hb)
  have HL5 := Lib.hid (HL4.out.below hb (Nat.le_refl _))
  have HI5 := Lib.hid (HI4.out.below hb)
  have HJ5 := Lib.hid (vec_step HJ4.out hb)
  have HX5 := Lib.hid (HX4.out.below hb (Nat.le_refl _))
  clear HB4 HM4 HR4 HL4 HI4 HJ4 HX4 hb 
  have HY5 := Lib.hid (ho.nums)
  clear ho
  go_wp2_with fail
  refine (mread_any _ _ _ HL5.out HLL.out).mono ?_
  rintro e w6 ⟨vu, rfl, hmu, hb⟩
  obtain ⟨a6, c6, a7, c7, a8, c8, rfl, -⟩ := hmu.open_
  have HB6 := Lib.hid (HB5.out.trans (hb.mono HB5.out.size))
  have HM6 := Lib.hid (HM5.out.below hb)
  have HR6 := Lib.hid (vec_step HR5.out hb)
  have HL6 := Lib.hid (HL5.out.below hb (Nat.le_refl _))
  have HI6 := Lib.hid (HI5.out.below hb)
  have HJ6 := Lib.hid (vec_step HJ5.out hb)
  have HX6 := Lib.hid (HX5.out.below hb (Nat.le_refl _))
  have HY6 := Lib.hid (HY5.out.below hb (Nat.le_refl _))
  clear HB5 HM5 HR5 HL5 HI5 HJ5 HX5 HY5 hb 
  have HU6 := Lib.hid (hmu)
  clear hmu
  go_upto_region 7 with (fail)
  have hx := ext_alloc w6 (.cells #[.slice a6 (readF l).ps.length c6, .slice a7 (readF l).ts.length c7, .slice a8 (readF l).bs.length c8] 30)
  have hn := heap_alloc_new w6 (.cells #[.slice a6 (readF l).ps.length c6, .slice a7 (readF l).ts.length c7, .slice a8 (readF l).bs.length c8] 30)
  obtain ⟨w7, hW⟩ : ∃ W, W = w6.alloc (.cells #[.slice a6 (readF l).ps.length c6, .slice a7 (readF l).ts.length c7, .slice a8 (readF l).bs.length c8] 30) := ⟨_, rfl⟩
  rw [← hW] at hx hn ⊢
  clear hW
  have HB7 := Lib.hid (HB6.out.trans (hx.mono HB6.out.size))
  have HM7 := Lib.hid (HM6.out.below hx)
  have HR7 := Lib.hid (vec_step HR6.out hx)
  have HL7 := Lib.hid (HL6.out.below hx (Nat.le_refl _))
  have HI7 := Lib.hid (HI6.out.below hx)
  have HJ7 := Lib.hid (vec_step HJ6.out hx)
  have HX7 := Lib.hid (HX6.out.below hx (Nat.le_refl _))
  have HY7 := Lib.hid (HY6.out.below hx (Nat.le_refl _))
  have HU7 := Lib.hid (HU6.out.below hx)
  clear HB6 HM6 HR6 HL6 HI6 HJ6 HX6 HY6 HU6 hx 
  have HE7 := Lib.hid (hn)
  clear hn
  generalize w6.heap.size = g12 at HE7 ⊢
  go_wp2_with fail
  refine (rread_any _ _ _ HL7.out HLL.out).mono ?_
  rintro e w8 ⟨vv, rfl, hmv, hb⟩
  obtain ⟨a9, c9, a10, c10, a11, c11, rfl, -⟩ := hmv.open_
  have HB8 := Lib.hid (HB7.out.trans (hb.mono HB7.out.size))
  have HM8 := Lib.hid (HM7.out.below hb)
  have HR8 := Lib.hid (vec_step HR7.out hb)
  have HL8 := Lib.hid (HL7.out.below hb (Nat.le_refl _))
  have HI8 := Lib.hid (HI7.out.below hb)
  have HJ8 := Lib.hid (vec_step HJ7.out hb)
  have HX8 := Lib.hid (HX7.out.below hb (Nat.le_refl _))
  have HY8 := Lib.hid (HY7.out.below hb (Nat.le_refl _))
  have HU8 := Lib.hid (HU7.out.below hb)
  have HE8 := Lib.hid (vec_step HE7.out hb)
  clear HB7 HM7 HR7 HL7 HI7 HJ7 HX7 HY7 HU7 HE7 hb 
  have HV8 := Lib.hid (hmv)
  clear hmv
  go_upto_region 8 with (fail)
  have hx := ext_alloc w8 (.cells #[.slice a9 (readF l).ps.length c9, .slice a10 (readF l).ts.length c10, .slice a11 (readF l).bs.length c11] 30)
  have hn := heap_alloc_new w8 (.cells #[.slice a9 (readF l).ps.length c9, .slice a10 (readF l).ts.length c10, .slice a11 (readF l).bs.length c11] 30)
  obtain ⟨w9, hW⟩ : ∃ W, W = w8.alloc (.cells #[.slice a9 (readF l).ps.length c9, .slice a10 (readF l).ts.length c10, .slice a11 (readF l).bs.length c11] 30) := ⟨_, rfl⟩
  rw [← hW] at hx hn ⊢
  clear hW
  have HB9 := Lib.hid (HB8.out.trans (hx.mono HB8.out.size))
  have HM9 := Lib.hid (HM8.out.below hx)
  have HR9 := Lib.hid (vec_step HR8.out hx)
  have HL9 := Lib.hid (HL8.out.below hx (Nat.le_refl _))
  have HI9 := Lib.hid (HI8.out.below hx)
  have HJ9 := Lib.hid (vec_step HJ8.out hx)
  have HX9 := Lib.hid (HX8.out.below hx (Nat.le_refl _))
  have HY9 := Lib.hid (HY8.out.below hx (Nat.le_refl _))
  have HU9 := Lib.hid (HU8.out.below hx)
  have HE9 := Lib.hid (vec_step HE8.out hx)
  have HV9 := Lib.hid (HV8.out.below hx)
  clear HB8 HM8 HR8 HL8 HI8 HJ8 HX8 HY8 HU8 HE8 HV8 hx 
  have HF9 := Lib.hid (hn)
  clear hn
  generalize w8.heap.size = g14 at HF9 ⊢
  obtain ⟨C, hC⟩ : ∃ C : Nat, C = m.ts.length + m.bs.length := ⟨_, rfl⟩
  have CN : Hid (∀ w', Below w9.heap.size w9 w' → Calls Try.prog 17 #[.agg #[.slice a0 m.ps.length c0, .slice a1 m.ts.length c1, .slice a2 m.bs.length c2]] w' (VTo (.int .i64 (C : Int)) w')) := Lib.hid (fun w' hb => by rw [hC]; exact rcount_any _ m w' (HM9.out.below hb) HTB.out)
  have CI : Hid (∀ w', Below w9.heap.size w9 w' → Calls Try.prog 20 #[.agg #[.slice a3 m.ps.length c3, .slice a4 m.ts.length c4, .slice a5 m.bs.length c5]] w' (VTo (.int .i64 (C : Int)) w')) := Lib.hid (fun w' hb => by rw [hC]; exact count_any _ m w' (HI9.out.below hb) HTB.out)
  have HC : Hid (C ≤ 120) := Lib.hid (by have := HT.out; omega)
  clear hC
  have BXI := Lib.hid (fun (i : Int) (hi : In i) w' (hb : Below w9.heap.size w9 w') => box_any _ m w' (HI9.out.below hb) HOK.out HTB.out i hi)
  have BXM := Lib.hid (fun (i : Int) (hi : In i) w' (hb : Below w9.heap.size w9 w') => rbox_any _ m w' (HM9.out.below hb) HOK.out HTB.out i hi)
  have SB := same_box
  go_wp2_with fail
  go_loopg [16] (C + 2) (fun r n9 wr => ∃ i : Int, (r : Int) + i = C + 1 ∧ n9 = .int .i64 i ∧ Hid (-1 ≤ i ∧ Below w9.heap.size w9 wr))
  case atStart => exact ⟨-1, by omega, rfl, Lib.hid ⟨by omega, Below.refl _ _⟩⟩
  case round =>
    obtain ⟨i, hir, rfl, hin⟩ := hrel
    have k0 := cell_row (vec_step HR9.out hin.out.2) 0 _ rfl
    have k1 := cell_row (vec_step HR9.out hin.out.2) 1 _ rfl
    have k2 := cell_row (vec_step HR9.out hin.out.2) 2 _ rfl
    by_cases hi : i ≤ (C : Int)
    · have d2 : decide (i ≤ (C : Int)) = true := decide_eq_true hi
      have hIn : Hid (In i) := Lib.hid ⟨by have := hin.out.1; omega, by have := HC.out; omega⟩
      have wi : IntKind.i64.wrap (i + 1) = i + 1 := by rw [wrap_in (by have := hin.out.1; omega) (by have := HC.out; omega)]
      have HRR := Lib.hid hir
      have HII := Lib.hid hi
      clear hir hi
      go_wp2_with fail
      refine (CN.out _ hin.out.2).mono ?_
      rintro e x1 ⟨rfl, hb1⟩
      have HX1 := Lib.hid (hin.out.2.trans (hb1.mono hin.out.2.size))
      clear hb1 k0 k1 k2
      go_upto_region 11 with (fail)
      obtain ⟨⟨⟨p1, p2, p3⟩, ⟨p4, p5, p6⟩⟩, hbx⟩ : ∃ bx, bx = boxF m i := ⟨_, rfl⟩
      have Q1 := Lib.hid (qb (P := Try.prog) (W := x1) (v := .agg #[.int .i64 p1, .int .i64 p2, .int .i64 p3, .int .i64 p4, .int .i64 p5, .int .i64 p6]) (fun w2 hb => by have := BXI.out i hIn.out w2 (HX1.out.trans (hb.mono HX1.out.size)); rw [← hbx] at this; exact (this : Calls Try.prog 8 #[.agg #[.slice a3 m.ps.length c3, .slice a4 m.ts.length c4, .slice a5 m.bs.length c5], .int .i64 i] w2 (VTo (.agg #[.int .i64 p1, .int .i64 p2, .int .i64 p3, .int .i64 p4, .int .i64 p5, .int .i64 p6]) w2))))
      have Q2 := Lib.hid (qb (P := Try.prog) (W := x1) (v := .agg #[.int .i64 p1, .int .i64 p2, .int .i64 p3, .int .i64 p4, .int .i64 p5, .int .i64 p6]) (fun w2 hb => by have := BXM.out i hIn.out w2 (HX1.out.trans (hb.mono HX1.out.size)); rw [← hbx] at this; exact (this : Calls Try.prog 18 #[.agg #[.slice a0 m.ps.length c0, .slice a1 m.ts.length c1, .slice a2 m.bs.length c2], .int .i64 i] w2 (VTo (.agg #[.int .i64 p1, .int .i64 p2, .int .i64 p3, .int .i64 p4, .int .i64 p5, .int .i64 p6]) w2))))
      clear hbx
      have f0 := fun d os => cell_regrown (cell_row (vec_step HR9.out HX1.out) 0 _ rfl) d os
      have f1 := fun d os => cell_regrown (cell_row (vec_step HR9.out HX1.out) 1 _ rfl) d os
      have f2 := fun d os => cell_regrown (cell_row (vec_step HR9.out HX1.out) 2 _ rfl) d os
      have f3 := fun d os => cell_regrown (cell_row (vec_step HJ9.out HX1.out) 0 _ rfl) d os
      have f4 := fun d os => cell_regrown (cell_row (vec_step HJ9.out HX1.out) 1 _ rfl) d os
      have f5 := fun d os => cell_regrown (cell_row (vec_step HJ9.out HX1.out) 2 _ rfl) d os
      refine wp_region_quiet_below (by kernel_rfl) (by kernel_rfl) ?_
      repeat (go_big_quiet_step (first | (with_reducible exact Q1.out _ _) | (with_reducible exact Q2.out _ _)))
      refine wpQuiet_nil ?_
      rintro _ ⟨⟨dq, osq⟩, rfl⟩
      have HQ := Lib.hid (HX1.out.trans ((below_regrown x1 dq osq).mono HX1.out.size))
      clear f0 f1 f2 f3 f4 f5 Q1 Q2 HX1
      go_wp2_with fail
      go_roundg ((C + 1 - i).toNat - 1)
      case measure => have := HRR.out; have := HII.out; omega
      case rel => exact ⟨i + 1, by have := HRR.out; have := HII.out; omega, by go_num, Lib.hid ⟨by have := hin.out.1; omega, HQ.out⟩⟩
    · have d2 : decide (i ≤ (C : Int)) = false := decide_eq_false hi
      clear hi hir
      go_wp2_with fail
      refine (CN.out _ hin.out.2).mono ?_
      rintro e x1 ⟨rfl, hb1⟩
      have HX1 := Lib.hid (hin.out.2.trans (hb1.mono hin.out.2.size))
      clear hb1 k0 k1 k2 hin
      go_upto_region 13 with (fail)
      obtain ⟨⟨⟨p1, p2, p3⟩, ⟨p4, p5, p6⟩⟩, hbx⟩ : ∃ bx, bx = boxF m at' := ⟨_, rfl⟩
      have HIz := Lib.hid (fun w2 (hb : Below x1.heap.size x1 w2) => HI9.out.below (HX1.out.trans (hb.mono HX1.out.size)))
      have HMz := Lib.hid (fun w2 (hb : Below x1.heap.size x1 w2) => HM9.out.below (HX1.out.trans (hb.mono HX1.out.size)))
      have Q1 := Lib.hid (qb (P := Try.prog) (W := x1) (fun w2 hb => check_any _ m w2 (HIz.out w2 hb)))
      have Q2 := Lib.hid (qb (P := Try.prog) (W := x1) (fun w2 hb => rcheck_any _ m w2 (HMz.out w2 hb) HTB.out))
      have Q3 := Lib.hid (qb (P := Try.prog) (W := x1) (fun w2 hb => CI.out w2 (HX1.out.trans (hb.mono HX1.out.size))))
      have Q4 := Lib.hid (qb (P := Try.prog) (W := x1) (fun w2 hb => CN.out w2 (HX1.out.trans (hb.mono HX1.out.size))))
      have Q5 := Lib.hid (qb (P := Try.prog) (W := x1) (v := .agg #[.int .i64 p1, .int .i64 p2, .int .i64 p3, .int .i64 p4, .int .i64 p5, .int .i64 p6]) (fun w2 hb => by have := BXI.out at' HAT.out w2 (HX1.out.trans (hb.mono HX1.out.size)); rw [← hbx] at this; exact this))
      have Q6 := Lib.hid (qb (P := Try.prog) (W := x1) (v := .agg #[.int .i64 p1, .int .i64 p2, .int .i64 p3, .int .i64 p4, .int .i64 p5, .int .i64 p6]) (fun w2 hb => by have := BXM.out at' HAT.out w2 (HX1.out.trans (hb.mono HX1.out.size)); rw [← hbx] at this; exact this))
      have Q7 := Lib.hid (qb (P := Try.prog) (W := x1) (v := .bool true) (fun w2 hb => by
        have hb2 := HX1.out.trans (hb.mono HX1.out.size)
        have := same_below (sameBytes_any x y (outF m) (outF m) w2 (HX9.out.below hb2 (Nat.le_refl _)) (HY9.out.below hb2 (Nat.le_refl _)))
        simp only [decide_true] at this; exact this))
      have Q8 := Lib.hid (qb (P := Try.prog) (W := x1) (fun w2 hb => sameMesh_eq _ _ (readF l) w2 (HU9.out.below (HX1.out.trans (hb.mono HX1.out.size))) (HV9.out.below (HX1.out.trans (hb.mono HX1.out.size)))))
      have Q9 := Lib.hid (qb (P := Try.prog) (W := x1) (fun w2 hb => sameMesh_eq _ _ m w2 (HIz.out w2 hb) (HMz.out w2 hb)))
      have Q10 := Lib.hid (qb (P := Try.prog) (W := x1) (v := .bool true) (fun w2 hb => AW.out w2))
      have HB10 := Lib.hid (HB9.out.trans (HX1.out.mono HB9.out.size))
      clear hbx
      have f0 := fun d os => cell_regrown (cell_row (vec_step HR9.out HX1.out) 0 _ rfl) d os
      have f1 := fun d os => cell_regrown (cell_row (vec_step HR9.out HX1.out) 1 _ rfl) d os
      have f2 := fun d os => cell_regrown (cell_row (vec_step HR9.out HX1.out) 2 _ rfl) d os
      have f3 := fun d os => cell_regrown (cell_row (vec_step HJ9.out HX1.out) 0 _ rfl) d os
      have f4 := fun d os => cell_regrown (cell_row (vec_step HJ9.out HX1.out) 1 _ rfl) d os
      have f5 := fun d os => cell_regrown (cell_row (vec_step HJ9.out HX1.out) 2 _ rfl) d os
      have f6 := fun d os => cell_regrown (cell_row (vec_step HE9.out HX1.out) 0 _ rfl) d os
      have f7 := fun d os => cell_regrown (cell_row (vec_step HE9.out HX1.out) 1 _ rfl) d os
      have f8 := fun d os => cell_regrown (cell_row (vec_step HE9.out HX1.out) 2 _ rfl) d os
      have f9 := fun d os => cell_regrown (cell_row (vec_step HF9.out HX1.out) 0 _ rfl) d os
      have f10 := fun d os => cell_regrown (cell_row (vec_step HF9.out HX1.out) 1 _ rfl) d os
      have f11 := fun d os => cell_regrown (cell_row (vec_step HF9.out HX1.out) 2 _ rfl) d os
      clear HX1 CI CN BXI BXM AW HIz HMz HI9 HM9 HX9 HY9 HU9 HV9 HB9 HR9 HJ9 HE9 HF9
      refine wp_region_quiet_below (by kernel_rfl) (by kernel_rfl) ?_
      repeat (go_big_quiet_step (first | (with_reducible exact Q1.out _ _) | (with_reducible exact Q2.out _ _) | (with_reducible exact Q3.out _ _) | (with_reducible exact Q4.out _ _) | (with_reducible exact Q5.out _ _) | (with_reducible exact Q6.out _ _) | (with_reducible exact Q7.out _ _) | (with_reducible exact Q8.out _ _) | (with_reducible exact Q9.out _ _) | (with_reducible exact Q10.out _ _)))
      refine wpQuiet_nil ?_
      rintro _ ⟨⟨dq, osq⟩, rfl⟩
      have HQ := Lib.hid (HB10.out.trans ((below_regrown x1 dq osq).mono HB10.out.size))
      go_wp2_with fail
      go_ret
      exact ⟨rfl, HQ.out⟩

end Go.Proofs.Ytdmmjmdnljhooaa.MeshV
