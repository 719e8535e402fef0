/- The walk of law12's MeshBack. -/
import Derived.Test.YtdmmjmdnljhooaaMeshU
import Derived.Test.YtdmmjmdnljhooaaMeshW
import Derived.Test.YtdmmjmdnljhooaaMeshN
set_option linter.unusedVariables false
set_option linter.unusedSimpArgs false
namespace Go.Proofs.Ytdmmjmdnljhooaa.MeshX
open Go.RowKit Go.Sort FixM Base Num FixW Qb Qt Qa VecW VecV VecU LightQ LightC MeshM Rec MeshA MeshB MeshC MeshD MeshE MeshP MeshEq MeshL MeshN MeshS MeshT MeshF MeshG MeshU MeshW Low

theorem read_0 (w : World) (v : Value) (B : List Nat) (hv : Nums .u8 256 w v B) (hB : B.length ≤ 1000000) (h : codeF B = 0) : Calls Try.prog 10 #[v] w (fun e w' => ∃ v, e = .returned (.tuple #[v, .int .i64 0]) ∧ IsMesh w' v (readF B) ∧ Below w.heap.size w w') := by
  have := mread_any w v B hv hB
  unfold RdTo at this
  rwa [h] at this
theorem bytes_0 (v : Value) (m : Msh) (w : World) (hm : IsMesh w v m) (h : checkF m = 0) : Calls Try.prog 6 #[v] w (fun e w' => ∃ v, e = .returned (.tuple #[v, .int .i64 0]) ∧ Nums .u8 256 w' v (outF m) ∧ Below w.heap.size w w') :=
  (bytes_any v m w hm).mono fun e w' hh => by
    obtain ⟨x, rfl, ho, hb⟩ := hh
    exact ⟨x, by rw [h], ho.nums, hb⟩
theorem bytes_14 (v : Value) (m : Msh) (w : World) (hm : IsMesh w v m) (h : checkF m ≠ 0) : Calls Try.prog 6 #[v] w (fun e w' => ∃ a c, e = .returned (.tuple #[.slice a 0 c, .int .i64 14]) ∧ Below w.heap.size w w') :=
  (bytes_any v m w hm).mono fun e w' hh => by
    obtain ⟨x, rfl, ho, hb⟩ := hh
    rw [(check_14 h).2] at ho
    obtain ⟨a, c, rfl, -, -⟩ := ho.nums.shape
    exact ⟨a, c, by rw [(check_14 h).1]; rfl, hb⟩
theorem check_v (v : Value) (m : Msh) (w : World) (c : Int) (hm : IsMesh w v m) (h : checkF m = c) : Calls Try.prog 7 #[v] w (VTo (.int .i64 c) w) := by
  have := check_any v m w hm
  rwa [h] at this
theorem same_l (x y : Value) (l : List Nat) (w : World) (h1 : Nums .u8 256 w x l) (h2 : Nums .u8 256 w y l) : Calls Try.prog 21 #[x, y] w (VTo (.bool true) w) := by
  have := same_below (sameBytes_any x y l l w h1 h2)
  simp only [decide_true] at this
  exact this
theorem within_in (p : V3) (b : Bx) (h : inB p b) (w : World) : Calls Try.prog 23 #[vecV p, boxV b] w (VTo (.bool true) w) := within_true p b.lo b.hi h w

set_option maxRecDepth 100000 in
set_option maxHeartbeats 16000000 in
theorem back_any (v : Value) (m : Msh) (ok : m.ok) (b : Value) (l : List Nat) (w : World) (hm : IsMesh w v m) (hl : Nums .u8 256 w b l) : Calls Try.prog 5 #[v, b] w (AwTo w) := by
  have HL9 := Lib.hid hl.bound
  obtain ⟨ab, cb, rfl, -, -⟩ := hl.shape
  have CS := Lib.hid (fun w' (hb : Below w.heap.size w w') => smallMesh_any v m w' (hm.below hb) 200)
  obtain ⟨S, hS⟩ : ∃ S, S = (decide ((m.ps.length : Int) ≤ 200) && decide ((m.ts.length : Int) ≤ 200) && decide ((m.bs.length : Int) ≤ 200)) := ⟨_, rfl⟩
  rw [← hS] at CS
  obtain ⟨a0, c0, a1, c1, a2, c2, rfl, hp, ht, hbb, -⟩ := hm.open_
  obtain ⟨W, hW⟩ : ∃ W, W = w.alloc (.cells #[.slice a0 m.ps.length c0, .slice a1 m.ts.length c1, .slice a2 m.bs.length c2] 30) := ⟨_, rfl⟩
  have hB : Below w.heap.size w W := by rw [hW]; exact ext_alloc _ _
  have hR : W.heap[w.heap.size]? = some (.cells #[.slice a0 m.ps.length c0, .slice a1 m.ts.length c1, .slice a2 m.bs.length c2] 30) := by rw [hW]; exact heap_alloc_new _ _
  have k0 := cell_row hR 0 _ rfl
  have k1 := cell_row hR 1 _ rfl
  have k2 := cell_row hR 2 _ rfl
  have HR0 := Lib.hid hR
  have HB0 := Lib.hid hB
  have HM0 := Lib.hid (hm.below hB)
  have HL0 := Lib.hid (hl.below hB (Nat.le_refl _))
  have HP0 := Lib.hid (hp.below hB (Nat.le_refl _))
  have HQ0 := Lib.hid (ht.below hB (Nat.le_refl _))
  have HV0 := Lib.hid (hbb.below hB (Nat.le_refl _))
  have HS := Lib.hid hS
  have HWW := Lib.hid hW
  rw [hW] at k0 k1 k2
  have AW := Lib.hid awake_any
  clear hR hB hW hS hm hl hp ht hbb
  cases S
  · go_enter Try.func5, Try.ntmps5
    go_wp2_with fail
    rw [← HWW.out]
    clear k0 k1 k2
    refine (CS.out _ HB0.out).mono ?_
    rintro e w1 ⟨rfl, hb1⟩
    have HB1 := Lib.hid (HB0.out.trans (hb1.mono HB0.out.size))
    clear hb1 HB0
    go_wp2_with fail
    refine (AW.out _).mono ?_
    rintro e w2 ⟨rfl, hb2⟩
    have HB2 := Lib.hid (HB1.out.trans (hb2.mono HB1.out.size))
    clear hb2 HB1
    go_wp2_with fail
    go_ret
    exact ⟨rfl, HB2.out⟩
  by_cases h2 : 5000 < l.length
  · have d1 : decide (5000 < (l.length : Int)) = true := decide_eq_true (by omega)
    clear h2
    go_enter Try.func5, Try.ntmps5
    go_wp2_with fail
    rw [← HWW.out]
    clear k0 k1 k2
    refine (CS.out _ HB0.out).mono ?_
    rintro e w1 ⟨rfl, hb1⟩
    have HB1 := Lib.hid (HB0.out.trans (hb1.mono HB0.out.size))
    clear hb1 HB0
    go_wp2_with fail
    refine (AW.out _).mono ?_
    rintro e w2 ⟨rfl, hb2⟩
    have HB2 := Lib.hid (HB1.out.trans (hb2.mono HB1.out.size))
    clear hb2 HB1
    go_wp2_with fail
    go_ret
    exact ⟨rfl, HB2.out⟩
  have HT : Hid (m.ps.length ≤ 200 ∧ m.ts.length ≤ 200 ∧ m.bs.length ≤ 200) := Lib.hid (by
    have := HS.out.symm
    simp only [Bool.and_eq_true, decide_eq_true_eq] at this
    omega)
  have HLL := Lib.hid (show l.length ≤ 1000000 by omega)
  have HTB := Lib.hid (show m.ts.length + m.bs.length ≤ 9223372036854775807 by have := HT.out; omega)
  have HOK := Lib.hid ok
  have d1 : decide (5000 < (l.length : Int)) = false := decide_eq_false (by omega)
  clear h2 HS ok
  by_cases hc : codeF l = 0
  · go_enter Try.func5, Try.ntmps5
    go_wp2_with fail
    rw [← HWW.out]
    clear k0 k1 k2 HWW
    refine (CS.out _ HB0.out).mono ?_
    rintro e w1 ⟨rfl, hb⟩
    have HB1 := Lib.hid (HB0.out.trans (hb.mono HB0.out.size))
    have HM1 := Lib.hid (HM0.out.below hb)
    have HR1 := Lib.hid (vec_step HR0.out hb)
    have HL1 := Lib.hid (HL0.out.below hb (Nat.le_refl _))
    have HP1 := Lib.hid (HP0.out.below hb (Nat.le_refl _))
    have HQ1 := Lib.hid (HQ0.out.below hb (Nat.le_refl _))
    have HV1 := Lib.hid (HV0.out.below hb (Nat.le_refl _))
    clear HB0 HM0 HR0 HL0 HP0 HQ0 HV0 hb CS
    go_wp2_with fail
    refine (read_0 _ _ _ HL1.out HLL.out hc).mono ?_
    rintro e w2 ⟨vu, rfl, hmu, hb⟩
    have HRB := Lib.hid (read_back l HL9.out hc)
    clear hc
    obtain ⟨a6, c6, a7, c7, a8, c8, rfl, -⟩ := hmu.open_
    have HB2 := Lib.hid (HB1.out.trans (hb.mono HB1.out.size))
    have HM2 := Lib.hid (HM1.out.below hb)
    have HR2 := Lib.hid (vec_step HR1.out hb)
    have HL2 := Lib.hid (HL1.out.below hb (Nat.le_refl _))
    have HP2 := Lib.hid (HP1.out.below hb (Nat.le_refl _))
    have HQ2 := Lib.hid (HQ1.out.below hb (Nat.le_refl _))
    have HV2 := Lib.hid (HV1.out.below hb (Nat.le_refl _))
    clear HB1 HM1 HR1 HL1 HP1 HQ1 HV1 hb 
    have HU2 := Lib.hid (hmu)
    clear hmu
    go_upto_region 4 with (fail)
    have hx := ext_alloc w2 (.cells #[.slice a6 (readF l).ps.length c6, .slice a7 (readF l).ts.length c7, .slice a8 (readF l).bs.length c8] 30)
    have hn := heap_alloc_new w2 (.cells #[.slice a6 (readF l).ps.length c6, .slice a7 (readF l).ts.length c7, .slice a8 (readF l).bs.length c8] 30)
    obtain ⟨w3, hW⟩ : ∃ W, W = w2.alloc (.cells #[.slice a6 (readF l).ps.length c6, .slice a7 (readF l).ts.length c7, .slice a8 (readF l).bs.length c8] 30) := ⟨_, rfl⟩
    rw [← hW] at hx hn ⊢
    clear hW
    have HB3 := Lib.hid (HB2.out.trans (hx.mono HB2.out.size))
    have HM3 := Lib.hid (HM2.out.below hx)
    have HR3 := Lib.hid (vec_step HR2.out hx)
    have HL3 := Lib.hid (HL2.out.below hx (Nat.le_refl _))
    have HP3 := Lib.hid (HP2.out.below hx (Nat.le_refl _))
    have HQ3 := Lib.hid (HQ2.out.below hx (Nat.le_refl _))
    have HV3 := Lib.hid (HV2.out.below hx (Nat.le_refl _))
    have HU3 := Lib.hid (HU2.out.below hx)
    clear HB2 HM2 HR2 HL2 HP2 HQ2 HV2 HU2 hx 
    have HE3 := Lib.hid (hn)
    clear hn
    generalize w2.heap.size = g5 at HE3 ⊢
    have k0 := cell_row HE3.out 0 _ rfl
    have k1 := cell_row HE3.out 1 _ rfl
    have k2 := cell_row HE3.out 2 _ rfl
    go_wp2_with fail
    clear k0 k1 k2
    refine (bytes_0 _ (readF l) _ HU3.out HRB.out.1).mono ?_
    rintro e w4 ⟨x0, rfl, hx0, hb⟩
    rw [HRB.out.2] at hx0
    have HB4 := Lib.hid (HB3.out.trans (hb.mono HB3.out.size))
    have HM4 := Lib.hid (HM3.out.below hb)
    have HR4 := Lib.hid (vec_step HR3.out hb)
    have HL4 := Lib.hid (HL3.out.below hb (Nat.le_refl _))
    have HP4 := Lib.hid (HP3.out.below hb (Nat.le_refl _))
    have HQ4 := Lib.hid (HQ3.out.below hb (Nat.le_refl _))
    have HV4 := Lib.hid (HV3.out.below hb (Nat.le_refl _))
    have HU4 := Lib.hid (HU3.out.below hb)
    have HE4 := Lib.hid (vec_step HE3.out hb)
    clear HB3 HM3 HR3 HL3 HP3 HQ3 HV3 HU3 HE3 hb 
    have HX4 := Lib.hid (hx0)
    clear hx0
    have k0 := cell_row HE4.out 0 _ rfl
    have k1 := cell_row HE4.out 1 _ rfl
    have k2 := cell_row HE4.out 2 _ rfl
    go_wp2_with fail
    clear k0 k1 k2
    refine (check_v _ (readF l) _ 0 HU4.out HRB.out.1).mono ?_
    rintro e w5 ⟨rfl, hb⟩
    have HB5 := Lib.hid (HB4.out.trans (hb.mono HB4.out.size))
    have HM5 := Lib.hid (HM4.out.below hb)
    have HR5 := Lib.hid (vec_step HR4.out hb)
    have HL5 := Lib.hid (HL4.out.below hb (Nat.le_refl _))
    have HP5 := Lib.hid (HP4.out.below hb (Nat.le_refl _))
    have HQ5 := Lib.hid (HQ4.out.below hb (Nat.le_refl _))
    have HV5 := Lib.hid (HV4.out.below hb (Nat.le_refl _))
    have HU5 := Lib.hid (HU4.out.below hb)
    have HE5 := Lib.hid (vec_step HE4.out hb)
    have HX5 := Lib.hid (HX4.out.below hb (Nat.le_refl _))
    clear HB4 HM4 HR4 HL4 HP4 HQ4 HV4 HU4 HE4 HX4 hb 
    go_wp2_with fail
    refine (same_l _ _ l _ HX5.out HL5.out).mono ?_
    rintro e w6 ⟨rfl, hb⟩
    have HB6 := Lib.hid (HB5.out.trans (hb.mono HB5.out.size))
    have HM6 := Lib.hid (HM5.out.below hb)
    have HR6 := Lib.hid (vec_step HR5.out hb)
    have HL6 := Lib.hid (HL5.out.below hb (Nat.le_refl _))
    have HP6 := Lib.hid (HP5.out.below hb (Nat.le_refl _))
    have HQ6 := Lib.hid (HQ5.out.below hb (Nat.le_refl _))
    have HV6 := Lib.hid (HV5.out.below hb (Nat.le_refl _))
    have HU6 := Lib.hid (HU5.out.below hb)
    have HE6 := Lib.hid (vec_step HE5.out hb)
    have HX6 := Lib.hid (HX5.out.below hb (Nat.le_refl _))
    clear HB5 HM5 HR5 HL5 HP5 HQ5 HV5 HU5 HE5 HX5 hb HRB
    have k0 := cell_row HR6.out 0 _ rfl
    have k1 := cell_row HR6.out 1 _ rfl
    have k2 := cell_row HR6.out 2 _ rfl
    go_wp2_with fail
    clear k0 k1 k2
    by_cases hk : checkF m = 0
    · have HK := Lib.hid hk
      clear hk
      refine (bytes_0 _ m _ HM6.out HK.out).mono ?_
      rintro e w7 ⟨x, rfl, hx1, hb⟩
      rw [show outF m = bytesF m from if_pos HK.out] at hx1
      have HB7 := Lib.hid (HB6.out.trans (hb.mono HB6.out.size))
      have HM7 := Lib.hid (HM6.out.below hb)
      have HR7 := Lib.hid (vec_step HR6.out hb)
      have HL7 := Lib.hid (HL6.out.below hb (Nat.le_refl _))
      have HP7 := Lib.hid (HP6.out.below hb (Nat.le_refl _))
      have HQ7 := Lib.hid (HQ6.out.below hb (Nat.le_refl _))
      have HV7 := Lib.hid (HV6.out.below hb (Nat.le_refl _))
      have HU7 := Lib.hid (HU6.out.below hb)
      have HE7 := Lib.hid (vec_step HE6.out hb)
      have HX7 := Lib.hid (HX6.out.below hb (Nat.le_refl _))
      clear HB6 HM6 HR6 HL6 HP6 HQ6 HV6 HU6 HE6 HX6 hb 
      have HY7 := Lib.hid (hx1)
      clear hx1
      have k0 := cell_row HR7.out 0 _ rfl
      have k1 := cell_row HR7.out 1 _ rfl
      have k2 := cell_row HR7.out 2 _ rfl
      go_wp2_with fail
      clear k0 k1 k2
      refine (check_v _ m _ 0 HM7.out HK.out).mono ?_
      rintro e w8 ⟨rfl, hb⟩
      have HB8 := Lib.hid (HB7.out.trans (hb.mono HB7.out.size))
      have HM8 := Lib.hid (HM7.out.below hb)
      have HR8 := Lib.hid (vec_step HR7.out hb)
      have HL8 := Lib.hid (HL7.out.below hb (Nat.le_refl _))
      have HP8 := Lib.hid (HP7.out.below hb (Nat.le_refl _))
      have HQ8 := Lib.hid (HQ7.out.below hb (Nat.le_refl _))
      have HV8 := Lib.hid (HV7.out.below hb (Nat.le_refl _))
      have HU8 := Lib.hid (HU7.out.below hb)
      have HE8 := Lib.hid (vec_step HE7.out hb)
      have HX8 := Lib.hid (HX7.out.below hb (Nat.le_refl _))
      have HY8 := Lib.hid (HY7.out.below hb (Nat.le_refl _))
      clear HB7 HM7 HR7 HL7 HP7 HQ7 HV7 HU7 HE7 HX7 HY7 hb 
      go_wp2_with fail
      refine (read_0 _ _ _ HY8.out (by rw [bytes_len]; have := HT.out; omega) (back_read m HK.out).1).mono ?_
      rintro e w9 ⟨vz, rfl, hmz, hb⟩
      rw [(back_read m HK.out).2] at hmz
      obtain ⟨a9, c9, a10, c10, a11, c11, rfl, -⟩ := hmz.open_
      have HB9 := Lib.hid (HB8.out.trans (hb.mono HB8.out.size))
      have HM9 := Lib.hid (HM8.out.below hb)
      have HR9 := Lib.hid (vec_step HR8.out hb)
      have HL9 := Lib.hid (HL8.out.below hb (Nat.le_refl _))
      have HP9 := Lib.hid (HP8.out.below hb (Nat.le_refl _))
      have HQ9 := Lib.hid (HQ8.out.below hb (Nat.le_refl _))
      have HV9 := Lib.hid (HV8.out.below hb (Nat.le_refl _))
      have HU9 := Lib.hid (HU8.out.below hb)
      have HE9 := Lib.hid (vec_step HE8.out hb)
      have HX9 := Lib.hid (HX8.out.below hb (Nat.le_refl _))
      have HY9 := Lib.hid (HY8.out.below hb (Nat.le_refl _))
      clear HB8 HM8 HR8 HL8 HP8 HQ8 HV8 HU8 HE8 HX8 HY8 hb 
      have HZ9 := Lib.hid (hmz)
      clear hmz
      go_upto_region 12 with (fail)
      have hx := ext_alloc w9 (.cells #[.slice a9 m.ps.length c9, .slice a10 m.ts.length c10, .slice a11 m.bs.length c11] 30)
      have hn := heap_alloc_new w9 (.cells #[.slice a9 m.ps.length c9, .slice a10 m.ts.length c10, .slice a11 m.bs.length c11] 30)
      obtain ⟨w10, hW⟩ : ∃ W, W = w9.alloc (.cells #[.slice a9 m.ps.length c9, .slice a10 m.ts.length c10, .slice a11 m.bs.length c11] 30) := ⟨_, rfl⟩
      rw [← hW] at hx hn ⊢
      clear hW
      have HB10 := Lib.hid (HB9.out.trans (hx.mono HB9.out.size))
      have HM10 := Lib.hid (HM9.out.below hx)
      have HR10 := Lib.hid (vec_step HR9.out hx)
      have HL10 := Lib.hid (HL9.out.below hx (Nat.le_refl _))
      have HP10 := Lib.hid (HP9.out.below hx (Nat.le_refl _))
      have HQ10 := Lib.hid (HQ9.out.below hx (Nat.le_refl _))
      have HV10 := Lib.hid (HV9.out.below hx (Nat.le_refl _))
      have HU10 := Lib.hid (HU9.out.below hx)
      have HE10 := Lib.hid (vec_step HE9.out hx)
      have HX10 := Lib.hid (HX9.out.below hx (Nat.le_refl _))
      have HY10 := Lib.hid (HY9.out.below hx (Nat.le_refl _))
      have HZ10 := Lib.hid (HZ9.out.below hx)
      clear HB9 HM9 HR9 HL9 HP9 HQ9 HV9 HU9 HE9 HX9 HY9 HZ9 hx 
      have HF10 := Lib.hid (hn)
      clear hn
      generalize w9.heap.size = g11 at HF10 ⊢
      have k0 := cell_row HF10.out 0 _ rfl
      have k1 := cell_row HF10.out 1 _ rfl
      have k2 := cell_row HF10.out 2 _ rfl
      have j0 := cell_row HR10.out 0 _ rfl
      have j1 := cell_row HR10.out 1 _ rfl
      have j2 := cell_row HR10.out 2 _ rfl
      go_wp2_with fail
      clear k0 k1 k2 j0 j1 j2
      refine (sameMesh_eq _ _ m _ HZ10.out HM10.out).mono ?_
      rintro e w11 ⟨rfl, hb⟩
      have HB11 := Lib.hid (HB10.out.trans (hb.mono HB10.out.size))
      have HM11 := Lib.hid (HM10.out.below hb)
      have HR11 := Lib.hid (vec_step HR10.out hb)
      have HL11 := Lib.hid (HL10.out.below hb (Nat.le_refl _))
      have HP11 := Lib.hid (HP10.out.below hb (Nat.le_refl _))
      have HQ11 := Lib.hid (HQ10.out.below hb (Nat.le_refl _))
      have HV11 := Lib.hid (HV10.out.below hb (Nat.le_refl _))
      have HU11 := Lib.hid (HU10.out.below hb)
      have HE11 := Lib.hid (vec_step HE10.out hb)
      have HX11 := Lib.hid (HX10.out.below hb (Nat.le_refl _))
      have HY11 := Lib.hid (HY10.out.below hb (Nat.le_refl _))
      have HZ11 := Lib.hid (HZ10.out.below hb)
      have HF11 := Lib.hid (vec_step HF10.out hb)
      clear HB10 HM10 HR10 HL10 HP10 HQ10 HV10 HU10 HE10 HX10 HY10 HZ10 HF10 hb 
      go_wp2_with fail
      have BXM := Lib.hid (fun (i : Int) (hi : In i) w' (hb : Below w11.heap.size w11 w') => box_any _ m w' (HM11.out.below hb) HOK.out HTB.out i hi)
      obtain ⟨n0, hn0⟩ : ∃ n, n = m.ps.length := ⟨_, rfl⟩
      obtain ⟨n1, hn1⟩ : ∃ n, n = m.ts.length := ⟨_, rfl⟩
      obtain ⟨n2, hn2⟩ : ∃ n, n = m.bs.length := ⟨_, rfl⟩
      rw [← hn0, ← hn1, ← hn2] at HR11 HT BXM
      rw [← hn0] at HP11
      rw [← hn1] at HQ11
      rw [← hn2] at HV11
      rw [← hn0, ← hn1, ← hn2]
      have HN0 := Lib.hid hn0
      have HN1 := Lib.hid hn1
      have HN2 := Lib.hid hn2
      clear hn0 hn1 hn2
      go_loopg [13] n1 (fun r n9 wr => ∃ i : Nat, i + r = n1 ∧ n9 = .int .i64 (i : Int) ∧ Hid (Below w11.heap.size w11 wr))
      case atStart => exact ⟨0, by omega, rfl, Lib.hid (Below.refl _ _)⟩
      case round =>
        obtain ⟨i, hir, rfl, hin⟩ := hrel
        have k0 := cell_row (vec_step HR11.out hin.out) 0 _ rfl
        have k1 := cell_row (vec_step HR11.out hin.out) 1 _ rfl
        have k2 := cell_row (vec_step HR11.out hin.out) 2 _ rfl
        by_cases hi : i < n1
        · have hi2 : (i : Int) < (n1 : Int) := by omega
          have d3 : decide (i < n1) = true := decide_eq_true hi
          have d2 : decide ((i : Int) < (n1 : Int)) = true := decide_eq_true hi2
          have hi3 : i < m.ts.length := by rw [← HN1.out]; exact hi
          have hi5 : i < 200 := by have := HT.out; omega
          have wi : IntKind.i64.wrap ((i : Int) + 1) = (i : Int) + 1 := by rw [wrap_in (by omega) (by omega)]
          have HIX : Hid (In (i : Int)) := Lib.hid ⟨by omega, by omega⟩
          have HRR := Lib.hid hir
          have HII := Lib.hid hi2
          have HI3 := Lib.hid hi3
          have gx := in_tri m HK.out i hi3 m.ts[i].x (.inl rfl)
          have gy := in_tri m HK.out i hi3 m.ts[i].y (.inr (.inl rfl))
          have gz := in_tri m HK.out i hi3 m.ts[i].z (.inr (.inr rfl))
          obtain ⟨⟨x, y, z⟩, ht⟩ : ∃ t, t = m.ts[i] := ⟨_, rfl⟩
          rw [← ht] at gx gy gz
          dsimp only at gx gy gz
          have HTT := Lib.hid (fun h : i < m.ts.length => (ht.symm : m.ts[i]'h = ⟨x, y, z⟩))
          obtain ⟨x, rfl⟩ := Int.eq_ofNat_of_zero_le gx.1
          obtain ⟨y, rfl⟩ := Int.eq_ofNat_of_zero_le gy.1
          obtain ⟨z, rfl⟩ := Int.eq_ofNat_of_zero_le gz.1
          have GX := Lib.hid gx
          have GY := Lib.hid gy
          have GZ := Lib.hid gz
          have hiw := Lib.hid (show Below w11.heap.size w11 wr from hin.out)
          clear ht gx gy gz hir hi3 hi5 hi2 hin
          go_wp2_with fail
          clear k0 k1 k2
          go_loopg [14] 3 (fun r n8 wr2 => ∃ k : Int, 0 ≤ k ∧ k + (r : Int) = 3 ∧ n8 = .int .i64 k ∧ Hid (Below w11.heap.size w11 wr2))
          case atStart => exact ⟨0, by omega, by omega, rfl, hiw⟩
          case round =>
            obtain ⟨k, hk0, hkr, rfl, hin⟩ := hrel
            rcases (show k = 0 ∨ k = 1 ∨ k = 2 ∨ k = 3 by omega) with rfl | rfl | rfl | rfl
            · clear hk0
              have hkr2 := Lib.hid hkr
              clear hkr
              have hxn : x < m.ps.length := by have := GX.out.2.1; omega
              have g0 : decide (x < n0) = true := decide_eq_true (by rw [HN0.out]; exact hxn)
              have g1 : decide ((x : Int) < (n0 : Int)) = true := decide_eq_true (by rw [HN0.out]; omega)
              have hx9 : x < n0 := by rw [HN0.out]; exact hxn
              have j0 := cell_row (vec_step HR11.out hin.out) 0 _ rfl
              have j1 := cell_row (vec_step HR11.out hin.out) 1 _ rfl
              have j2 := cell_row (vec_step HR11.out hin.out) 2 _ rfl
              have hi9 : i < m.ts.length := HI3.out
              obtain ⟨b, off, e, hbl, t0, t1, t2⟩ := at3 (HQ11.out.below hin.out (Nat.le_refl _)) i hi9
              subst e
              have htt : m.ts[i]'hi9 = ⟨_, _, _⟩ := HTT.out hi9
              rw [htt] at t0 t1 t2
              clear htt hi9
              dsimp only at t0 t1 t2
              obtain ⟨b', off', e, hbl', s0, s1, s2⟩ := at3 (HP11.out.below hin.out (Nat.le_refl _)) x hxn
              subst e
              have hpt : ptF m (x : Int) = m.ps[x] := by simp [ptF, hxn]
              obtain ⟨⟨px, py, pz⟩, hpp⟩ : ∃ p, p = m.ps[x] := ⟨_, rfl⟩
              rw [← hpp] at hpt s0 s1 s2
              dsimp only at s0 s1 s2
              obtain ⟨⟨⟨p1, p2, p3⟩, ⟨p4, p5, p6⟩⟩, hbx⟩ : ∃ bx, bx = boxF m (i : Int) := ⟨_, rfl⟩
              have HNB := Lib.hid (show inB ⟨px, py, pz⟩ ⟨⟨p1, p2, p3⟩, ⟨p4, p5, p6⟩⟩ by rw [hbx, ← hpt]; exact GX.out.2.2)
              go_upto_region 20 with (fail)
              have f0 := fun d os => cell_regrown j0 d os
              have f1 := fun d os => cell_regrown j1 d os
              have f2 := fun d os => cell_regrown j2 d os
              have ft := fun d os => cell_regrown t0 d os
              have fs0 := fun d os => cell_regrown s0 d os
              have fs1 := fun d os => cell_regrown s1 d os
              have fs2 := fun d os => cell_regrown s2 d os
              have Q1 := Lib.hid (qb (P := Try.prog) (W := wr) (v := .agg #[.int .i64 p1, .int .i64 p2, .int .i64 p3, .int .i64 p4, .int .i64 p5, .int .i64 p6]) (fun w2 hb => by have := BXM.out ((i : Int)) HIX.out w2 (hin.out.trans (hb.mono hin.out.size)); rw [← hbx] at this; exact this))
              have Q2 := Lib.hid (qb (P := Try.prog) (W := wr) (v := .bool true) (fun w2 hb => within_in ⟨px, py, pz⟩ ⟨⟨p1, p2, p3⟩, ⟨p4, p5, p6⟩⟩ HNB.out w2))
              dsimp only [vecV, boxV] at Q2
              clear hbx hpp hpt hxn hbl hbl' j0 j1 j2 t0 t1 t2 s0 s1 s2
              refine wp_region_quiet_below (by kernel_rfl) (by kernel_rfl) ?_
              repeat (go_big_quiet_step (first | (with_reducible exact Q1.out _ _) | (with_reducible exact Q2.out _ _)))
              refine wpQuiet_nil ?_
              first | (rintro _ ⟨⟨dq, osq⟩, rfl⟩) | (rintro ⟨dq, osq⟩)
              have HQQ := Lib.hid (hin.out.trans ((below_regrown wr dq osq).mono hin.out.size))
              clear f0 f1 f2 ft fs0 fs1 fs2 Q1 Q2
              go_wp2_with fail
              go_roundg 2
              case measure => have := hkr2.out; omega
              case rel => exact ⟨1, by omega, by omega, rfl, HQQ⟩
            · clear hk0
              have hkr2 := Lib.hid hkr
              clear hkr
              have hxn : y < m.ps.length := by have := GY.out.2.1; omega
              have g0 : decide (y < n0) = true := decide_eq_true (by rw [HN0.out]; exact hxn)
              have g1 : decide ((y : Int) < (n0 : Int)) = true := decide_eq_true (by rw [HN0.out]; omega)
              have hx9 : y < n0 := by rw [HN0.out]; exact hxn
              have j0 := cell_row (vec_step HR11.out hin.out) 0 _ rfl
              have j1 := cell_row (vec_step HR11.out hin.out) 1 _ rfl
              have j2 := cell_row (vec_step HR11.out hin.out) 2 _ rfl
              have hi9 : i < m.ts.length := HI3.out
              obtain ⟨b, off, e, hbl, t0, t1, t2⟩ := at3 (HQ11.out.below hin.out (Nat.le_refl _)) i hi9
              subst e
              have htt : m.ts[i]'hi9 = ⟨_, _, _⟩ := HTT.out hi9
              rw [htt] at t0 t1 t2
              clear htt hi9
              dsimp only at t0 t1 t2
              obtain ⟨b', off', e, hbl', s0, s1, s2⟩ := at3 (HP11.out.below hin.out (Nat.le_refl _)) y hxn
              subst e
              have hpt : ptF m (y : Int) = m.ps[y] := by simp [ptF, hxn]
              obtain ⟨⟨px, py, pz⟩, hpp⟩ : ∃ p, p = m.ps[y] := ⟨_, rfl⟩
              rw [← hpp] at hpt s0 s1 s2
              dsimp only at s0 s1 s2
              obtain ⟨⟨⟨p1, p2, p3⟩, ⟨p4, p5, p6⟩⟩, hbx⟩ : ∃ bx, bx = boxF m (i : Int) := ⟨_, rfl⟩
              have HNB := Lib.hid (show inB ⟨px, py, pz⟩ ⟨⟨p1, p2, p3⟩, ⟨p4, p5, p6⟩⟩ by rw [hbx, ← hpt]; exact GY.out.2.2)
              go_upto_region 20 with (fail)
              have f0 := fun d os => cell_regrown j0 d os
              have f1 := fun d os => cell_regrown j1 d os
              have f2 := fun d os => cell_regrown j2 d os
              have ft := fun d os => cell_regrown t1 d os
              have fs0 := fun d os => cell_regrown s0 d os
              have fs1 := fun d os => cell_regrown s1 d os
              have fs2 := fun d os => cell_regrown s2 d os
              have Q1 := Lib.hid (qb (P := Try.prog) (W := wr) (v := .agg #[.int .i64 p1, .int .i64 p2, .int .i64 p3, .int .i64 p4, .int .i64 p5, .int .i64 p6]) (fun w2 hb => by have := BXM.out ((i : Int)) HIX.out w2 (hin.out.trans (hb.mono hin.out.size)); rw [← hbx] at this; exact this))
              have Q2 := Lib.hid (qb (P := Try.prog) (W := wr) (v := .bool true) (fun w2 hb => within_in ⟨px, py, pz⟩ ⟨⟨p1, p2, p3⟩, ⟨p4, p5, p6⟩⟩ HNB.out w2))
              dsimp only [vecV, boxV] at Q2
              clear hbx hpp hpt hxn hbl hbl' j0 j1 j2 t0 t1 t2 s0 s1 s2
              refine wp_region_quiet_below (by kernel_rfl) (by kernel_rfl) ?_
              repeat (go_big_quiet_step (first | (with_reducible exact Q1.out _ _) | (with_reducible exact Q2.out _ _)))
              refine wpQuiet_nil ?_
              first | (rintro _ ⟨⟨dq, osq⟩, rfl⟩) | (rintro ⟨dq, osq⟩)
              have HQQ := Lib.hid (hin.out.trans ((below_regrown wr dq osq).mono hin.out.size))
              clear f0 f1 f2 ft fs0 fs1 fs2 Q1 Q2
              go_wp2_with fail
              go_roundg 1
              case measure => have := hkr2.out; omega
              case rel => exact ⟨2, by omega, by omega, rfl, HQQ⟩
            · clear hk0
              have hkr2 := Lib.hid hkr
              clear hkr
              have hxn : z < m.ps.length := by have := GZ.out.2.1; omega
              have g0 : decide (z < n0) = true := decide_eq_true (by rw [HN0.out]; exact hxn)
              have g1 : decide ((z : Int) < (n0 : Int)) = true := decide_eq_true (by rw [HN0.out]; omega)
              have hx9 : z < n0 := by rw [HN0.out]; exact hxn
              have j0 := cell_row (vec_step HR11.out hin.out) 0 _ rfl
              have j1 := cell_row (vec_step HR11.out hin.out) 1 _ rfl
              have j2 := cell_row (vec_step HR11.out hin.out) 2 _ rfl
              have hi9 : i < m.ts.length := HI3.out
              obtain ⟨b, off, e, hbl, t0, t1, t2⟩ := at3 (HQ11.out.below hin.out (Nat.le_refl _)) i hi9
              subst e
              have htt : m.ts[i]'hi9 = ⟨_, _, _⟩ := HTT.out hi9
              rw [htt] at t0 t1 t2
              clear htt hi9
              dsimp only at t0 t1 t2
              obtain ⟨b', off', e, hbl', s0, s1, s2⟩ := at3 (HP11.out.below hin.out (Nat.le_refl _)) z hxn
              subst e
              have hpt : ptF m (z : Int) = m.ps[z] := by simp [ptF, hxn]
              obtain ⟨⟨px, py, pz⟩, hpp⟩ : ∃ p, p = m.ps[z] := ⟨_, rfl⟩
              rw [← hpp] at hpt s0 s1 s2
              dsimp only at s0 s1 s2
              obtain ⟨⟨⟨p1, p2, p3⟩, ⟨p4, p5, p6⟩⟩, hbx⟩ : ∃ bx, bx = boxF m (i : Int) := ⟨_, rfl⟩
              have HNB := Lib.hid (show inB ⟨px, py, pz⟩ ⟨⟨p1, p2, p3⟩, ⟨p4, p5, p6⟩⟩ by rw [hbx, ← hpt]; exact GZ.out.2.2)
              go_upto_region 20 with (fail)
              have f0 := fun d os => cell_regrown j0 d os
              have f1 := fun d os => cell_regrown j1 d os
              have f2 := fun d os => cell_regrown j2 d os
              have ft := fun d os => cell_regrown t2 d os
              have fs0 := fun d os => cell_regrown s0 d os
              have fs1 := fun d os => cell_regrown s1 d os
              have fs2 := fun d os => cell_regrown s2 d os
              have Q1 := Lib.hid (qb (P := Try.prog) (W := wr) (v := .agg #[.int .i64 p1, .int .i64 p2, .int .i64 p3, .int .i64 p4, .int .i64 p5, .int .i64 p6]) (fun w2 hb => by have := BXM.out ((i : Int)) HIX.out w2 (hin.out.trans (hb.mono hin.out.size)); rw [← hbx] at this; exact this))
              have Q2 := Lib.hid (qb (P := Try.prog) (W := wr) (v := .bool true) (fun w2 hb => within_in ⟨px, py, pz⟩ ⟨⟨p1, p2, p3⟩, ⟨p4, p5, p6⟩⟩ HNB.out w2))
              dsimp only [vecV, boxV] at Q2
              clear hbx hpp hpt hxn hbl hbl' j0 j1 j2 t0 t1 t2 s0 s1 s2
              refine wp_region_quiet_below (by kernel_rfl) (by kernel_rfl) ?_
              repeat (go_big_quiet_step (first | (with_reducible exact Q1.out _ _) | (with_reducible exact Q2.out _ _)))
              refine wpQuiet_nil ?_
              first | (rintro _ ⟨⟨dq, osq⟩, rfl⟩) | (rintro ⟨dq, osq⟩)
              have HQQ := Lib.hid (hin.out.trans ((below_regrown wr dq osq).mono hin.out.size))
              clear f0 f1 f2 ft fs0 fs1 fs2 Q1 Q2
              go_wp2_with fail
              go_roundg 0
              case measure => have := hkr2.out; omega
              case rel => exact ⟨3, by omega, by omega, rfl, HQQ⟩
            · clear hk0 hkr
              have HQQ := Lib.hid (show Below w11.heap.size w11 wr from hin.out)
              clear hin
              go_wp2_with fail
              go_roundg (n1 - (i + 1))
              case measure => have := HRR.out; have := HII.out; omega
              case rel => exact ⟨i + 1, by have := HRR.out; have := HII.out; omega, by go_num, HQQ⟩
        · have d3 : decide (i < n1) = false := decide_eq_false hi
          have d2 : decide ((i : Int) < (n1 : Int)) = false := decide_eq_false (by omega)
          have HW := Lib.hid (show Below w11.heap.size w11 wr from hin.out)
          clear hin hir hi
          go_wp2_with fail
          clear k0 k1 k2 d2 d3
          go_loopg [15] n2 (fun r n9 wr => ∃ j : Nat, j + r = n2 ∧ n9 = .int .i64 (j : Int) ∧ Hid (Below w11.heap.size w11 wr))
          case atStart => exact ⟨0, by omega, rfl, HW⟩
          case round =>
            obtain ⟨j, hjr, rfl, hin⟩ := hrel
            have k0 := cell_row (vec_step HR11.out hin.out) 0 _ rfl
            have k1 := cell_row (vec_step HR11.out hin.out) 1 _ rfl
            have k2 := cell_row (vec_step HR11.out hin.out) 2 _ rfl
            by_cases hj : j < n2
            · have hj2 : (j : Int) < (n2 : Int) := by omega
              have d3 : decide (j < n2) = true := decide_eq_true hj
              have d2 : decide ((j : Int) < (n2 : Int)) = true := decide_eq_true hj2
              have hj3 : j < m.bs.length := by rw [← HN2.out]; exact hj
              have hj5 : j < 200 ∧ n1 ≤ 200 := by have := HT.out; omega
              have wi : IntKind.i64.wrap ((j : Int) + 1) = (j : Int) + 1 := by rw [wrap_in (by omega) (by omega)]
              have wn : IntKind.i64.wrap ((n1 : Int) + (j : Int)) = (n1 : Int) + (j : Int) := by rw [wrap_in (by omega) (by omega)]
              have HIX : Hid (In ((n1 : Int) + (j : Int))) := Lib.hid ⟨by omega, by omega⟩
              have HRR := Lib.hid hjr
              have HII := Lib.hid hj2
              have gb := in_ball m HK.out j hj3
              rw [← HN1.out] at gb
              obtain ⟨b, off, e, hbl, t0, t1, t2, t3⟩ := at4 (HV11.out.below hin.out (Nat.le_refl _)) j hj3
              subst e
              obtain ⟨⟨⟨px, py, pz⟩, pr⟩, hpp⟩ : ∃ p, p = m.bs[j] := ⟨_, rfl⟩
              rw [← hpp] at gb t0 t1 t2 t3
              dsimp only at t0 t1 t2 t3 gb
              obtain ⟨⟨⟨p1, p2, p3⟩, ⟨p4, p5, p6⟩⟩, hbx⟩ : ∃ bx, bx = boxF m ((n1 : Int) + (j : Int)) := ⟨_, rfl⟩
              have HNB := Lib.hid (show inB ⟨px, py, pz⟩ ⟨⟨p1, p2, p3⟩, ⟨p4, p5, p6⟩⟩ by rw [hbx]; exact gb)
              clear gb hjr hj3 hj5 hj2 hpp hbl
              go_upto_region 25 with (fail)
              have f0 := fun d os => cell_regrown k0 d os
              have f1 := fun d os => cell_regrown k1 d os
              have f2 := fun d os => cell_regrown k2 d os
              have ft0 := fun d os => cell_regrown t0 d os
              have ft1 := fun d os => cell_regrown t1 d os
              have ft2 := fun d os => cell_regrown t2 d os
              have Q1 := Lib.hid (qb (P := Try.prog) (W := wr) (v := .agg #[.int .i64 p1, .int .i64 p2, .int .i64 p3, .int .i64 p4, .int .i64 p5, .int .i64 p6]) (fun w2 hb => by have := BXM.out ((n1 : Int) + (j : Int)) HIX.out w2 (hin.out.trans (hb.mono hin.out.size)); rw [← hbx] at this; exact this))
              have Q2 := Lib.hid (qb (P := Try.prog) (W := wr) (v := .bool true) (fun w2 hb => within_in ⟨px, py, pz⟩ ⟨⟨p1, p2, p3⟩, ⟨p4, p5, p6⟩⟩ HNB.out w2))
              dsimp only [vecV, boxV] at Q2
              clear hbx k0 k1 k2 t0 t1 t2 t3
              refine wp_region_quiet_below (by kernel_rfl) (by kernel_rfl) ?_
              repeat (go_big_quiet_step (first | (with_reducible exact Q1.out _ _) | (with_reducible exact Q2.out _ _)))
              refine wpQuiet_nil ?_
              first | (rintro _ ⟨⟨dq, osq⟩, rfl⟩) | (rintro ⟨dq, osq⟩)
              have HQQ := Lib.hid (hin.out.trans ((below_regrown wr dq osq).mono hin.out.size))
              clear f0 f1 f2 ft0 ft1 ft2 Q1 Q2
              go_wp2_with fail
              go_roundg (n2 - (j + 1))
              case measure => have := HRR.out; have := HII.out; omega
              case rel => exact ⟨j + 1, by have := HRR.out; have := HII.out; omega, by go_num, HQQ⟩
            · have d3 : decide (j < n2) = false := decide_eq_false hj
              have d2 : decide ((j : Int) < (n2 : Int)) = false := decide_eq_false (by omega)
              have HW2 := Lib.hid (show Below w11.heap.size w11 wr from hin.out)
              clear hin hjr hj
              go_wp2_with fail
              refine (AW.out _).mono ?_
              rintro e w12 ⟨rfl, hb⟩
              have HFIN := Lib.hid ((HB11.out.trans (HW2.out.mono HB11.out.size)).trans (hb.mono (Nat.le_trans HB11.out.size HW2.out.size)))
              clear hb
              go_wp2_with fail
              go_ret
              exact ⟨rfl, HFIN.out⟩
    · refine (bytes_14 _ m _ HM6.out hk).mono ?_
      rintro e w7 ⟨ax, cx, rfl, hb⟩
      have HB7 := Lib.hid (HB6.out.trans (hb.mono HB6.out.size))
      have HM7 := Lib.hid (HM6.out.below hb)
      have HR7 := Lib.hid (vec_step HR6.out hb)
      have HL7 := Lib.hid (HL6.out.below hb (Nat.le_refl _))
      have HP7 := Lib.hid (HP6.out.below hb (Nat.le_refl _))
      have HQ7 := Lib.hid (HQ6.out.below hb (Nat.le_refl _))
      have HV7 := Lib.hid (HV6.out.below hb (Nat.le_refl _))
      have HU7 := Lib.hid (HU6.out.below hb)
      have HE7 := Lib.hid (vec_step HE6.out hb)
      have HX7 := Lib.hid (HX6.out.below hb (Nat.le_refl _))
      clear HB6 HM6 HR6 HL6 HP6 HQ6 HV6 HU6 HE6 HX6 hb 
      have k0 := cell_row HR7.out 0 _ rfl
      have k1 := cell_row HR7.out 1 _ rfl
      have k2 := cell_row HR7.out 2 _ rfl
      go_wp2_with fail
      clear k0 k1 k2
      refine (check_v _ m _ 14 HM7.out (check_14 hk).1).mono ?_
      rintro e w8 ⟨rfl, hb⟩
      have HB8 := Lib.hid (HB7.out.trans (hb.mono HB7.out.size))
      have HM8 := Lib.hid (HM7.out.below hb)
      have HR8 := Lib.hid (vec_step HR7.out hb)
      have HL8 := Lib.hid (HL7.out.below hb (Nat.le_refl _))
      have HP8 := Lib.hid (HP7.out.below hb (Nat.le_refl _))
      have HQ8 := Lib.hid (HQ7.out.below hb (Nat.le_refl _))
      have HV8 := Lib.hid (HV7.out.below hb (Nat.le_refl _))
      have HU8 := Lib.hid (HU7.out.below hb)
      have HE8 := Lib.hid (vec_step HE7.out hb)
      have HX8 := Lib.hid (HX7.out.below hb (Nat.le_refl _))
      clear HB7 HM7 HR7 HL7 HP7 HQ7 HV7 HU7 HE7 HX7 hb 
      go_wp2_with fail
      refine (AW.out _).mono ?_
      rintro e w9 ⟨rfl, hb⟩
      have HB9 := Lib.hid (HB8.out.trans (hb.mono HB8.out.size))
      have HM9 := Lib.hid (HM8.out.below hb)
      have HR9 := Lib.hid (vec_step HR8.out hb)
      have HL9 := Lib.hid (HL8.out.below hb (Nat.le_refl _))
      have HP9 := Lib.hid (HP8.out.below hb (Nat.le_refl _))
      have HQ9 := Lib.hid (HQ8.out.below hb (Nat.le_refl _))
      have HV9 := Lib.hid (HV8.out.below hb (Nat.le_refl _))
      have HU9 := Lib.hid (HU8.out.below hb)
      have HE9 := Lib.hid (vec_step HE8.out hb)
      have HX9 := Lib.hid (HX8.out.below hb (Nat.le_refl _))
      clear HB8 HM8 HR8 HL8 HP8 HQ8 HV8 HU8 HE8 HX8 hb 
      go_wp2_with fail
      go_ret
      exact ⟨rfl, HB9.out⟩
  · go_enter Try.func5, Try.ntmps5
    go_wp2_with fail
    rw [← HWW.out]
    clear k0 k1 k2 HWW
    refine (CS.out _ HB0.out).mono ?_
    rintro e w1 ⟨rfl, hb⟩
    have HB1 := Lib.hid (HB0.out.trans (hb.mono HB0.out.size))
    have HM1 := Lib.hid (HM0.out.below hb)
    have HR1 := Lib.hid (vec_step HR0.out hb)
    have HL1 := Lib.hid (HL0.out.below hb (Nat.le_refl _))
    have HP1 := Lib.hid (HP0.out.below hb (Nat.le_refl _))
    have HQ1 := Lib.hid (HQ0.out.below hb (Nat.le_refl _))
    have HV1 := Lib.hid (HV0.out.below hb (Nat.le_refl _))
    clear HB0 HM0 HR0 HL0 HP0 HQ0 HV0 hb CS
    go_wp2_with fail
    have e1 : (codeF l == 0) = false := by simp [hc]
    have e2 : decide (codeF l = 0) = false := decide_eq_false hc
    clear hc
    refine (mread_any _ _ _ HL1.out HLL.out).mono ?_
    rintro e w2 ⟨vu, rfl, hmu, hb⟩
    obtain ⟨a6, c6, a7, c7, a8, c8, rfl, -⟩ := hmu.open_
    have HB2 := Lib.hid (HB1.out.trans (hb.mono HB1.out.size))
    have HM2 := Lib.hid (HM1.out.below hb)
    have HR2 := Lib.hid (vec_step HR1.out hb)
    have HL2 := Lib.hid (HL1.out.below hb (Nat.le_refl _))
    have HP2 := Lib.hid (HP1.out.below hb (Nat.le_refl _))
    have HQ2 := Lib.hid (HQ1.out.below hb (Nat.le_refl _))
    have HV2 := Lib.hid (HV1.out.below hb (Nat.le_refl _))
    clear HB1 HM1 HR1 HL1 HP1 HQ1 HV1 hb 
    have HU2 := Lib.hid (hmu)
    clear hmu
    go_upto_region 4 with (fail)
    have hx := ext_alloc w2 (.cells #[.slice a6 (readF l).ps.length c6, .slice a7 (readF l).ts.length c7, .slice a8 (readF l).bs.length c8] 30)
    have hn := heap_alloc_new w2 (.cells #[.slice a6 (readF l).ps.length c6, .slice a7 (readF l).ts.length c7, .slice a8 (readF l).bs.length c8] 30)
    obtain ⟨w3, hW⟩ : ∃ W, W = w2.alloc (.cells #[.slice a6 (readF l).ps.length c6, .slice a7 (readF l).ts.length c7, .slice a8 (readF l).bs.length c8] 30) := ⟨_, rfl⟩
    rw [← hW] at hx hn ⊢
    clear hW
    have HB3 := Lib.hid (HB2.out.trans (hx.mono HB2.out.size))
    have HM3 := Lib.hid (HM2.out.below hx)
    have HR3 := Lib.hid (vec_step HR2.out hx)
    have HL3 := Lib.hid (HL2.out.below hx (Nat.le_refl _))
    have HP3 := Lib.hid (HP2.out.below hx (Nat.le_refl _))
    have HQ3 := Lib.hid (HQ2.out.below hx (Nat.le_refl _))
    have HV3 := Lib.hid (HV2.out.below hx (Nat.le_refl _))
    have HU3 := Lib.hid (HU2.out.below hx)
    clear HB2 HM2 HR2 HL2 HP2 HQ2 HV2 HU2 hx 
    have HE3 := Lib.hid (hn)
    clear hn
    generalize w2.heap.size = g5 at HE3 ⊢
    have k0 := cell_row HR3.out 0 _ rfl
    have k1 := cell_row HR3.out 1 _ rfl
    have k2 := cell_row HR3.out 2 _ rfl
    go_wp2_with fail
    clear k0 k1 k2
    by_cases hk : checkF m = 0
    · have HK := Lib.hid hk
      clear hk
      refine (bytes_0 _ m _ HM3.out HK.out).mono ?_
      rintro e w7 ⟨x, rfl, hx1, hb⟩
      rw [show outF m = bytesF m from if_pos HK.out] at hx1
      have HB4 := Lib.hid (HB3.out.trans (hb.mono HB3.out.size))
      have HM4 := Lib.hid (HM3.out.below hb)
      have HR4 := Lib.hid (vec_step HR3.out hb)
      have HL4 := Lib.hid (HL3.out.below hb (Nat.le_refl _))
      have HP4 := Lib.hid (HP3.out.below hb (Nat.le_refl _))
      have HQ4 := Lib.hid (HQ3.out.below hb (Nat.le_refl _))
      have HV4 := Lib.hid (HV3.out.below hb (Nat.le_refl _))
      have HU4 := Lib.hid (HU3.out.below hb)
      have HE4 := Lib.hid (vec_step HE3.out hb)
      clear HB3 HM3 HR3 HL3 HP3 HQ3 HV3 HU3 HE3 hb 
      have HY4 := Lib.hid (hx1)
      clear hx1
      have k0 := cell_row HR4.out 0 _ rfl
      have k1 := cell_row HR4.out 1 _ rfl
      have k2 := cell_row HR4.out 2 _ rfl
      go_wp2_with fail
      clear k0 k1 k2
      refine (check_v _ m _ 0 HM4.out HK.out).mono ?_
      rintro e w8 ⟨rfl, hb⟩
      have HB5 := Lib.hid (HB4.out.trans (hb.mono HB4.out.size))
      have HM5 := Lib.hid (HM4.out.below hb)
      have HR5 := Lib.hid (vec_step HR4.out hb)
      have HL5 := Lib.hid (HL4.out.below hb (Nat.le_refl _))
      have HP5 := Lib.hid (HP4.out.below hb (Nat.le_refl _))
      have HQ5 := Lib.hid (HQ4.out.below hb (Nat.le_refl _))
      have HV5 := Lib.hid (HV4.out.below hb (Nat.le_refl _))
      have HU5 := Lib.hid (HU4.out.below hb)
      have HE5 := Lib.hid (vec_step HE4.out hb)
      have HY5 := Lib.hid (HY4.out.below hb (Nat.le_refl _))
      clear HB4 HM4 HR4 HL4 HP4 HQ4 HV4 HU4 HE4 HY4 hb 
      go_wp2_with fail
      refine (read_0 _ _ _ HY5.out (by rw [bytes_len]; have := HT.out; omega) (back_read m HK.out).1).mono ?_
      rintro e w9 ⟨vz, rfl, hmz, hb⟩
      rw [(back_read m HK.out).2] at hmz
      obtain ⟨a9, c9, a10, c10, a11, c11, rfl, -⟩ := hmz.open_
      have HB6 := Lib.hid (HB5.out.trans (hb.mono HB5.out.size))
      have HM6 := Lib.hid (HM5.out.below hb)
      have HR6 := Lib.hid (vec_step HR5.out hb)
      have HL6 := Lib.hid (HL5.out.below hb (Nat.le_refl _))
      have HP6 := Lib.hid (HP5.out.below hb (Nat.le_refl _))
      have HQ6 := Lib.hid (HQ5.out.below hb (Nat.le_refl _))
      have HV6 := Lib.hid (HV5.out.below hb (Nat.le_refl _))
      have HU6 := Lib.hid (HU5.out.below hb)
      have HE6 := Lib.hid (vec_step HE5.out hb)
      have HY6 := Lib.hid (HY5.out.below hb (Nat.le_refl _))
      clear HB5 HM5 HR5 HL5 HP5 HQ5 HV5 HU5 HE5 HY5 hb 
      have HZ6 := Lib.hid (hmz)
      clear hmz
      go_upto_region 12 with (fail)
      have hx := ext_alloc w9 (.cells #[.slice a9 m.ps.length c9, .slice a10 m.ts.length c10, .slice a11 m.bs.length c11] 30)
      have hn := heap_alloc_new w9 (.cells #[.slice a9 m.ps.length c9, .slice a10 m.ts.length c10, .slice a11 m.bs.length c11] 30)
      obtain ⟨w10, hW⟩ : ∃ W, W = w9.alloc (.cells #[.slice a9 m.ps.length c9, .slice a10 m.ts.length c10, .slice a11 m.bs.length c11] 30) := ⟨_, rfl⟩
      rw [← hW] at hx hn ⊢
      clear hW
      have HB7 := Lib.hid (HB6.out.trans (hx.mono HB6.out.size))
      have HM7 := Lib.hid (HM6.out.below hx)
      have HR7 := Lib.hid (vec_step HR6.out hx)
      have HL7 := Lib.hid (HL6.out.below hx (Nat.le_refl _))
      have HP7 := Lib.hid (HP6.out.below hx (Nat.le_refl _))
      have HQ7 := Lib.hid (HQ6.out.below hx (Nat.le_refl _))
      have HV7 := Lib.hid (HV6.out.below hx (Nat.le_refl _))
      have HU7 := Lib.hid (HU6.out.below hx)
      have HE7 := Lib.hid (vec_step HE6.out hx)
      have HY7 := Lib.hid (HY6.out.below hx (Nat.le_refl _))
      have HZ7 := Lib.hid (HZ6.out.below hx)
      clear HB6 HM6 HR6 HL6 HP6 HQ6 HV6 HU6 HE6 HY6 HZ6 hx 
      have HF7 := Lib.hid (hn)
      clear hn
      generalize w9.heap.size = g11 at HF7 ⊢
      have k0 := cell_row HF7.out 0 _ rfl
      have k1 := cell_row HF7.out 1 _ rfl
      have k2 := cell_row HF7.out 2 _ rfl
      have j0 := cell_row HR7.out 0 _ rfl
      have j1 := cell_row HR7.out 1 _ rfl
      have j2 := cell_row HR7.out 2 _ rfl
      go_wp2_with fail
      clear k0 k1 k2 j0 j1 j2
      refine (sameMesh_eq _ _ m _ HZ7.out HM7.out).mono ?_
      rintro e w11 ⟨rfl, hb⟩
      have HB8 := Lib.hid (HB7.out.trans (hb.mono HB7.out.size))
      have HM8 := Lib.hid (HM7.out.below hb)
      have HR8 := Lib.hid (vec_step HR7.out hb)
      have HL8 := Lib.hid (HL7.out.below hb (Nat.le_refl _))
      have HP8 := Lib.hid (HP7.out.below hb (Nat.le_refl _))
      have HQ8 := Lib.hid (HQ7.out.below hb (Nat.le_refl _))
      have HV8 := Lib.hid (HV7.out.below hb (Nat.le_refl _))
      have HU8 := Lib.hid (HU7.out.below hb)
      have HE8 := Lib.hid (vec_step HE7.out hb)
      have HY8 := Lib.hid (HY7.out.below hb (Nat.le_refl _))
      have HZ8 := Lib.hid (HZ7.out.below hb)
      have HF8 := Lib.hid (vec_step HF7.out hb)
      clear HB7 HM7 HR7 HL7 HP7 HQ7 HV7 HU7 HE7 HY7 HZ7 HF7 hb 
      go_wp2_with fail
      have BXM := Lib.hid (fun (i : Int) (hi : In i) w' (hb : Below w11.heap.size w11 w') => box_any _ m w' (HM8.out.below hb) HOK.out HTB.out i hi)
      obtain ⟨n0, hn0⟩ : ∃ n, n = m.ps.length := ⟨_, rfl⟩
      obtain ⟨n1, hn1⟩ : ∃ n, n = m.ts.length := ⟨_, rfl⟩
      obtain ⟨n2, hn2⟩ : ∃ n, n = m.bs.length := ⟨_, rfl⟩
      rw [← hn0, ← hn1, ← hn2] at HR8 HT BXM
      rw [← hn0] at HP8
      rw [← hn1] at HQ8
      rw [← hn2] at HV8
      rw [← hn0, ← hn1, ← hn2]
      have HN0 := Lib.hid hn0
      have HN1 := Lib.hid hn1
      have HN2 := Lib.hid hn2
      clear hn0 hn1 hn2
      go_loopg [13] n1 (fun r n9 wr => ∃ i : Nat, i + r = n1 ∧ n9 = .int .i64 (i : Int) ∧ Hid (Below w11.heap.size w11 wr))
      case atStart => exact ⟨0, by omega, rfl, Lib.hid (Below.refl _ _)⟩
      case round =>
        obtain ⟨i, hir, rfl, hin⟩ := hrel
        have k0 := cell_row (vec_step HR8.out hin.out) 0 _ rfl
        have k1 := cell_row (vec_step HR8.out hin.out) 1 _ rfl
        have k2 := cell_row (vec_step HR8.out hin.out) 2 _ rfl
        by_cases hi : i < n1
        · have hi2 : (i : Int) < (n1 : Int) := by omega
          have d3 : decide (i < n1) = true := decide_eq_true hi
          have d2 : decide ((i : Int) < (n1 : Int)) = true := decide_eq_true hi2
          have hi3 : i < m.ts.length := by rw [← HN1.out]; exact hi
          have hi5 : i < 200 := by have := HT.out; omega
          have wi : IntKind.i64.wrap ((i : Int) + 1) = (i : Int) + 1 := by rw [wrap_in (by omega) (by omega)]
          have HIX : Hid (In (i : Int)) := Lib.hid ⟨by omega, by omega⟩
          have HRR := Lib.hid hir
          have HII := Lib.hid hi2
          have HI3 := Lib.hid hi3
          have gx := in_tri m HK.out i hi3 m.ts[i].x (.inl rfl)
          have gy := in_tri m HK.out i hi3 m.ts[i].y (.inr (.inl rfl))
          have gz := in_tri m HK.out i hi3 m.ts[i].z (.inr (.inr rfl))
          obtain ⟨⟨x, y, z⟩, ht⟩ : ∃ t, t = m.ts[i] := ⟨_, rfl⟩
          rw [← ht] at gx gy gz
          dsimp only at gx gy gz
          have HTT := Lib.hid (fun h : i < m.ts.length => (ht.symm : m.ts[i]'h = ⟨x, y, z⟩))
          obtain ⟨x, rfl⟩ := Int.eq_ofNat_of_zero_le gx.1
          obtain ⟨y, rfl⟩ := Int.eq_ofNat_of_zero_le gy.1
          obtain ⟨z, rfl⟩ := Int.eq_ofNat_of_zero_le gz.1
          have GX := Lib.hid gx
          have GY := Lib.hid gy
          have GZ := Lib.hid gz
          have hiw := Lib.hid (show Below w11.heap.size w11 wr from hin.out)
          clear ht gx gy gz hir hi3 hi5 hi2 hin
          go_wp2_with fail
          clear k0 k1 k2
          go_loopg [14] 3 (fun r n8 wr2 => ∃ k : Int, 0 ≤ k ∧ k + (r : Int) = 3 ∧ n8 = .int .i64 k ∧ Hid (Below w11.heap.size w11 wr2))
          case atStart => exact ⟨0, by omega, by omega, rfl, hiw⟩
          case round =>
            obtain ⟨k, hk0, hkr, rfl, hin⟩ := hrel
            rcases (show k = 0 ∨ k = 1 ∨ k = 2 ∨ k = 3 by omega) with rfl | rfl | rfl | rfl
            · clear hk0
              have hkr2 := Lib.hid hkr
              clear hkr
              have hxn : x < m.ps.length := by have := GX.out.2.1; omega
              have g0 : decide (x < n0) = true := decide_eq_true (by rw [HN0.out]; exact hxn)
              have g1 : decide ((x : Int) < (n0 : Int)) = true := decide_eq_true (by rw [HN0.out]; omega)
              have hx9 : x < n0 := by rw [HN0.out]; exact hxn
              have j0 := cell_row (vec_step HR8.out hin.out) 0 _ rfl
              have j1 := cell_row (vec_step HR8.out hin.out) 1 _ rfl
              have j2 := cell_row (vec_step HR8.out hin.out) 2 _ rfl
              have hi9 : i < m.ts.length := HI3.out
              obtain ⟨b, off, e, hbl, t0, t1, t2⟩ := at3 (HQ8.out.below hin.out (Nat.le_refl _)) i hi9
              subst e
              have htt : m.ts[i]'hi9 = ⟨_, _, _⟩ := HTT.out hi9
              rw [htt] at t0 t1 t2
              clear htt hi9
              dsimp only at t0 t1 t2
              obtain ⟨b', off', e, hbl', s0, s1, s2⟩ := at3 (HP8.out.below hin.out (Nat.le_refl _)) x hxn
              subst e
              have hpt : ptF m (x : Int) = m.ps[x] := by simp [ptF, hxn]
              obtain ⟨⟨px, py, pz⟩, hpp⟩ : ∃ p, p = m.ps[x] := ⟨_, rfl⟩
              rw [← hpp] at hpt s0 s1 s2
              dsimp only at s0 s1 s2
              obtain ⟨⟨⟨p1, p2, p3⟩, ⟨p4, p5, p6⟩⟩, hbx⟩ : ∃ bx, bx = boxF m (i : Int) := ⟨_, rfl⟩
              have HNB := Lib.hid (show inB ⟨px, py, pz⟩ ⟨⟨p1, p2, p3⟩, ⟨p4, p5, p6⟩⟩ by rw [hbx, ← hpt]; exact GX.out.2.2)
              go_upto_region 20 with (fail)
              have f0 := fun d os => cell_regrown j0 d os
              have f1 := fun d os => cell_regrown j1 d os
              have f2 := fun d os => cell_regrown j2 d os
              have ft := fun d os => cell_regrown t0 d os
              have fs0 := fun d os => cell_regrown s0 d os
              have fs1 := fun d os => cell_regrown s1 d os
              have fs2 := fun d os => cell_regrown s2 d os
              have Q1 := Lib.hid (qb (P := Try.prog) (W := wr) (v := .agg #[.int .i64 p1, .int .i64 p2, .int .i64 p3, .int .i64 p4, .int .i64 p5, .int .i64 p6]) (fun w2 hb => by have := BXM.out ((i : Int)) HIX.out w2 (hin.out.trans (hb.mono hin.out.size)); rw [← hbx] at this; exact this))
              have Q2 := Lib.hid (qb (P := Try.prog) (W := wr) (v := .bool true) (fun w2 hb => within_in ⟨px, py, pz⟩ ⟨⟨p1, p2, p3⟩, ⟨p4, p5, p6⟩⟩ HNB.out w2))
              dsimp only [vecV, boxV] at Q2
              clear hbx hpp hpt hxn hbl hbl' j0 j1 j2 t0 t1 t2 s0 s1 s2
              refine wp_region_quiet_below (by kernel_rfl) (by kernel_rfl) ?_
              repeat (go_big_quiet_step (first | (with_reducible exact Q1.out _ _) | (with_reducible exact Q2.out _ _)))
              refine wpQuiet_nil ?_
              first | (rintro _ ⟨⟨dq, osq⟩, rfl⟩) | (rintro ⟨dq, osq⟩)
              have HQQ := Lib.hid (hin.out.trans ((below_regrown wr dq osq).mono hin.out.size))
              clear f0 f1 f2 ft fs0 fs1 fs2 Q1 Q2
              go_wp2_with fail
              go_roundg 2
              case measure => have := hkr2.out; omega
              case rel => exact ⟨1, by omega, by omega, rfl, HQQ⟩
            · clear hk0
              have hkr2 := Lib.hid hkr
              clear hkr
              have hxn : y < m.ps.length := by have := GY.out.2.1; omega
              have g0 : decide (y < n0) = true := decide_eq_true (by rw [HN0.out]; exact hxn)
              have g1 : decide ((y : Int) < (n0 : Int)) = true := decide_eq_true (by rw [HN0.out]; omega)
              have hx9 : y < n0 := by rw [HN0.out]; exact hxn
              have j0 := cell_row (vec_step HR8.out hin.out) 0 _ rfl
              have j1 := cell_row (vec_step HR8.out hin.out) 1 _ rfl
              have j2 := cell_row (vec_step HR8.out hin.out) 2 _ rfl
              have hi9 : i < m.ts.length := HI3.out
              obtain ⟨b, off, e, hbl, t0, t1, t2⟩ := at3 (HQ8.out.below hin.out (Nat.le_refl _)) i hi9
              subst e
              have htt : m.ts[i]'hi9 = ⟨_, _, _⟩ := HTT.out hi9
              rw [htt] at t0 t1 t2
              clear htt hi9
              dsimp only at t0 t1 t2
              obtain ⟨b', off', e, hbl', s0, s1, s2⟩ := at3 (HP8.out.below hin.out (Nat.le_refl _)) y hxn
              subst e
              have hpt : ptF m (y : Int) = m.ps[y] := by simp [ptF, hxn]
              obtain ⟨⟨px, py, pz⟩, hpp⟩ : ∃ p, p = m.ps[y] := ⟨_, rfl⟩
              rw [← hpp] at hpt s0 s1 s2
              dsimp only at s0 s1 s2
              obtain ⟨⟨⟨p1, p2, p3⟩, ⟨p4, p5, p6⟩⟩, hbx⟩ : ∃ bx, bx = boxF m (i : Int) := ⟨_, rfl⟩
              have HNB := Lib.hid (show inB ⟨px, py, pz⟩ ⟨⟨p1, p2, p3⟩, ⟨p4, p5, p6⟩⟩ by rw [hbx, ← hpt]; exact GY.out.2.2)
              go_upto_region 20 with (fail)
              have f0 := fun d os => cell_regrown j0 d os
              have f1 := fun d os => cell_regrown j1 d os
              have f2 := fun d os => cell_regrown j2 d os
              have ft := fun d os => cell_regrown t1 d os
              have fs0 := fun d os => cell_regrown s0 d os
              have fs1 := fun d os => cell_regrown s1 d os
              have fs2 := fun d os => cell_regrown s2 d os
              have Q1 := Lib.hid (qb (P := Try.prog) (W := wr) (v := .agg #[.int .i64 p1, .int .i64 p2, .int .i64 p3, .int .i64 p4, .int .i64 p5, .int .i64 p6]) (fun w2 hb => by have := BXM.out ((i : Int)) HIX.out w2 (hin.out.trans (hb.mono hin.out.size)); rw [← hbx] at this; exact this))
              have Q2 := Lib.hid (qb (P := Try.prog) (W := wr) (v := .bool true) (fun w2 hb => within_in ⟨px, py, pz⟩ ⟨⟨p1, p2, p3⟩, ⟨p4, p5, p6⟩⟩ HNB.out w2))
              dsimp only [vecV, boxV] at Q2
              clear hbx hpp hpt hxn hbl hbl' j0 j1 j2 t0 t1 t2 s0 s1 s2
              refine wp_region_quiet_below (by kernel_rfl) (by kernel_rfl) ?_
              repeat (go_big_quiet_step (first | (with_reducible exact Q1.out _ _) | (with_reducible exact Q2.out _ _)))
              refine wpQuiet_nil ?_
              first | (rintro _ ⟨⟨dq, osq⟩, rfl⟩) | (rintro ⟨dq, osq⟩)
              have HQQ := Lib.hid (hin.out.trans ((below_regrown wr dq osq).mono hin.out.size))
              clear f0 f1 f2 ft fs0 fs1 fs2 Q1 Q2
              go_wp2_with fail
              go_roundg 1
              case measure => have := hkr2.out; omega
              case rel => exact ⟨2, by omega, by omega, rfl, HQQ⟩
            · clear hk0
              have hkr2 := Lib.hid hkr
              clear hkr
              have hxn : z < m.ps.length := by have := GZ.out.2.1; omega
              have g0 : decide (z < n0) = true := decide_eq_true (by rw [HN0.out]; exact hxn)
              have g1 : decide ((z : Int) < (n0 : Int)) = true := decide_eq_true (by rw [HN0.out]; omega)
              have hx9 : z < n0 := by rw [HN0.out]; exact hxn
              have j0 := cell_row (vec_step HR8.out hin.out) 0 _ rfl
              have j1 := cell_row (vec_step HR8.out hin.out) 1 _ rfl
              have j2 := cell_row (vec_step HR8.out hin.out) 2 _ rfl
              have hi9 : i < m.ts.length := HI3.out
              obtain ⟨b, off, e, hbl, t0, t1, t2⟩ := at3 (HQ8.out.below hin.out (Nat.le_refl _)) i hi9
              subst e
              have htt : m.ts[i]'hi9 = ⟨_, _, _⟩ := HTT.out hi9
              rw [htt] at t0 t1 t2
              clear htt hi9
              dsimp only at t0 t1 t2
              obtain ⟨b', off', e, hbl', s0, s1, s2⟩ := at3 (HP8.out.below hin.out (Nat.le_refl _)) z hxn
              subst e
              have hpt : ptF m (z : Int) = m.ps[z] := by simp [ptF, hxn]
              obtain ⟨⟨px, py, pz⟩, hpp⟩ : ∃ p, p = m.ps[z] := ⟨_, rfl⟩
              rw [← hpp] at hpt s0 s1 s2
              dsimp only at s0 s1 s2
              obtain ⟨⟨⟨p1, p2, p3⟩, ⟨p4, p5, p6⟩⟩, hbx⟩ : ∃ bx, bx = boxF m (i : Int) := ⟨_, rfl⟩
              have HNB := Lib.hid (show inB ⟨px, py, pz⟩ ⟨⟨p1, p2, p3⟩, ⟨p4, p5, p6⟩⟩ by rw [hbx, ← hpt]; exact GZ.out.2.2)
              go_upto_region 20 with (fail)
              have f0 := fun d os => cell_regrown j0 d os
              have f1 := fun d os => cell_regrown j1 d os
              have f2 := fun d os => cell_regrown j2 d os
              have ft := fun d os => cell_regrown t2 d os
              have fs0 := fun d os => cell_regrown s0 d os
              have fs1 := fun d os => cell_regrown s1 d os
              have fs2 := fun d os => cell_regrown s2 d os
              have Q1 := Lib.hid (qb (P := Try.prog) (W := wr) (v := .agg #[.int .i64 p1, .int .i64 p2, .int .i64 p3, .int .i64 p4, .int .i64 p5, .int .i64 p6]) (fun w2 hb => by have := BXM.out ((i : Int)) HIX.out w2 (hin.out.trans (hb.mono hin.out.size)); rw [← hbx] at this; exact this))
              have Q2 := Lib.hid (qb (P := Try.prog) (W := wr) (v := .bool true) (fun w2 hb => within_in ⟨px, py, pz⟩ ⟨⟨p1, p2, p3⟩, ⟨p4, p5, p6⟩⟩ HNB.out w2))
              dsimp only [vecV, boxV] at Q2
              clear hbx hpp hpt hxn hbl hbl' j0 j1 j2 t0 t1 t2 s0 s1 s2
              refine wp_region_quiet_below (by kernel_rfl) (by kernel_rfl) ?_
              repeat (go_big_quiet_step (first | (with_reducible exact Q1.out _ _) | (with_reducible exact Q2.out _ _)))
              refine wpQuiet_nil ?_
              first | (rintro _ ⟨⟨dq, osq⟩, rfl⟩) | (rintro ⟨dq, osq⟩)
              have HQQ := Lib.hid (hin.out.trans ((below_regrown wr dq osq).mono hin.out.size))
              clear f0 f1 f2 ft fs0 fs1 fs2 Q1 Q2
              go_wp2_with fail
              go_roundg 0
              case measure => have := hkr2.out; omega
              case rel => exact ⟨3, by omega, by omega, rfl, HQQ⟩
            · clear hk0 hkr
              have HQQ := Lib.hid (show Below w11.heap.size w11 wr from hin.out)
              clear hin
              go_wp2_with fail
              go_roundg (n1 - (i + 1))
              case measure => have := HRR.out; have := HII.out; omega
              case rel => exact ⟨i + 1, by have := HRR.out; have := HII.out; omega, by go_num, HQQ⟩
        · have d3 : decide (i < n1) = false := decide_eq_false hi
          have d2 : decide ((i : Int) < (n1 : Int)) = false := decide_eq_false (by omega)
          have HW := Lib.hid (show Below w11.heap.size w11 wr from hin.out)
          clear hin hir hi
          go_wp2_with fail
          clear k0 k1 k2 d2 d3
          go_loopg [15] n2 (fun r n9 wr => ∃ j : Nat, j + r = n2 ∧ n9 = .int .i64 (j : Int) ∧ Hid (Below w11.heap.size w11 wr))
          case atStart => exact ⟨0, by omega, rfl, HW⟩
          case round =>
            obtain ⟨j, hjr, rfl, hin⟩ := hrel
            have k0 := cell_row (vec_step HR8.out hin.out) 0 _ rfl
            have k1 := cell_row (vec_step HR8.out hin.out) 1 _ rfl
            have k2 := cell_row (vec_step HR8.out hin.out) 2 _ rfl
            by_cases hj : j < n2
            · have hj2 : (j : Int) < (n2 : Int) := by omega
              have d3 : decide (j < n2) = true := decide_eq_true hj
              have d2 : decide ((j : Int) < (n2 : Int)) = true := decide_eq_true hj2
              have hj3 : j < m.bs.length := by rw [← HN2.out]; exact hj
              have hj5 : j < 200 ∧ n1 ≤ 200 := by have := HT.out; omega
              have wi : IntKind.i64.wrap ((j : Int) + 1) = (j : Int) + 1 := by rw [wrap_in (by omega) (by omega)]
              have wn : IntKind.i64.wrap ((n1 : Int) + (j : Int)) = (n1 : Int) + (j : Int) := by rw [wrap_in (by omega) (by omega)]
              have HIX : Hid (In ((n1 : Int) + (j : Int))) := Lib.hid ⟨by omega, by omega⟩
              have HRR := Lib.hid hjr
              have HII := Lib.hid hj2
              have gb := in_ball m HK.out j hj3
              rw [← HN1.out] at gb
              obtain ⟨b, off, e, hbl, t0, t1, t2, t3⟩ := at4 (HV8.out.below hin.out (Nat.le_refl _)) j hj3
              subst e
              obtain ⟨⟨⟨px, py, pz⟩, pr⟩, hpp⟩ : ∃ p, p = m.bs[j] := ⟨_, rfl⟩
              rw [← hpp] at gb t0 t1 t2 t3
              dsimp only at t0 t1 t2 t3 gb
              obtain ⟨⟨⟨p1, p2, p3⟩, ⟨p4, p5, p6⟩⟩, hbx⟩ : ∃ bx, bx = boxF m ((n1 : Int) + (j : Int)) := ⟨_, rfl⟩
              have HNB := Lib.hid (show inB ⟨px, py, pz⟩ ⟨⟨p1, p2, p3⟩, ⟨p4, p5, p6⟩⟩ by rw [hbx]; exact gb)
              clear gb hjr hj3 hj5 hj2 hpp hbl
              go_upto_region 25 with (fail)
              have f0 := fun d os => cell_regrown k0 d os
              have f1 := fun d os => cell_regrown k1 d os
              have f2 := fun d os => cell_regrown k2 d os
              have ft0 := fun d os => cell_regrown t0 d os
              have ft1 := fun d os => cell_regrown t1 d os
              have ft2 := fun d os => cell_regrown t2 d os
              have Q1 := Lib.hid (qb (P := Try.prog) (W := wr) (v := .agg #[.int .i64 p1, .int .i64 p2, .int .i64 p3, .int .i64 p4, .int .i64 p5, .int .i64 p6]) (fun w2 hb => by have := BXM.out ((n1 : Int) + (j : Int)) HIX.out w2 (hin.out.trans (hb.mono hin.out.size)); rw [← hbx] at this; exact this))
              have Q2 := Lib.hid (qb (P := Try.prog) (W := wr) (v := .bool true) (fun w2 hb => within_in ⟨px, py, pz⟩ ⟨⟨p1, p2, p3⟩, ⟨p4, p5, p6⟩⟩ HNB.out w2))
              dsimp only [vecV, boxV] at Q2
              clear hbx k0 k1 k2 t0 t1 t2 t3
              refine wp_region_quiet_below (by kernel_rfl) (by kernel_rfl) ?_
              repeat (go_big_quiet_step (first | (with_reducible exact Q1.out _ _) | (with_reducible exact Q2.out _ _)))
              refine wpQuiet_nil ?_
              first | (rintro _ ⟨⟨dq, osq⟩, rfl⟩) | (rintro ⟨dq, osq⟩)
              have HQQ := Lib.hid (hin.out.trans ((below_regrown wr dq osq).mono hin.out.size))
              clear f0 f1 f2 ft0 ft1 ft2 Q1 Q2
              go_wp2_with fail
              go_roundg (n2 - (j + 1))
              case measure => have := HRR.out; have := HII.out; omega
              case rel => exact ⟨j + 1, by have := HRR.out; have := HII.out; omega, by go_num, HQQ⟩
            · have d3 : decide (j < n2) = false := decide_eq_false hj
              have d2 : decide ((j : Int) < (n2 : Int)) = false := decide_eq_false (by omega)
              have HW2 := Lib.hid (show Below w11.heap.size w11 wr from hin.out)
              clear hin hjr hj
              go_wp2_with fail
              refine (AW.out _).mono ?_
              rintro e w12 ⟨rfl, hb⟩
              have HFIN := Lib.hid ((HB8.out.trans (HW2.out.mono HB8.out.size)).trans (hb.mono (Nat.le_trans HB8.out.size HW2.out.size)))
              clear hb
              go_wp2_with fail
              go_ret
              exact ⟨rfl, HFIN.out⟩
    · refine (bytes_14 _ m _ HM3.out hk).mono ?_
      rintro e w7 ⟨ax, cx, rfl, hb⟩
      have HB4 := Lib.hid (HB3.out.trans (hb.mono HB3.out.size))
      have HM4 := Lib.hid (HM3.out.below hb)
      have HR4 := Lib.hid (vec_step HR3.out hb)
      have HL4 := Lib.hid (HL3.out.below hb (Nat.le_refl _))
      have HP4 := Lib.hid (HP3.out.below hb (Nat.le_refl _))
      have HQ4 := Lib.hid (HQ3.out.below hb (Nat.le_refl _))
      have HV4 := Lib.hid (HV3.out.below hb (Nat.le_refl _))
      have HU4 := Lib.hid (HU3.out.below hb)
      have HE4 := Lib.hid (vec_step HE3.out hb)
      clear HB3 HM3 HR3 HL3 HP3 HQ3 HV3 HU3 HE3 hb 
      have k0 := cell_row HR4.out 0 _ rfl
      have k1 := cell_row HR4.out 1 _ rfl
      have k2 := cell_row HR4.out 2 _ rfl
      go_wp2_with fail
      clear k0 k1 k2
      refine (check_v _ m _ 14 HM4.out (check_14 hk).1).mono ?_
      rintro e w8 ⟨rfl, hb⟩
      have HB5 := Lib.hid (HB4.out.trans (hb.mono HB4.out.size))
      have HM5 := Lib.hid (HM4.out.below hb)
      have HR5 := Lib.hid (vec_step HR4.out hb)
      have HL5 := Lib.hid (HL4.out.below hb (Nat.le_refl _))
      have HP5 := Lib.hid (HP4.out.below hb (Nat.le_refl _))
      have HQ5 := Lib.hid (HQ4.out.below hb (Nat.le_refl _))
      have HV5 := Lib.hid (HV4.out.below hb (Nat.le_refl _))
      have HU5 := Lib.hid (HU4.out.below hb)
      have HE5 := Lib.hid (vec_step HE4.out hb)
      clear HB4 HM4 HR4 HL4 HP4 HQ4 HV4 HU4 HE4 hb 
      go_wp2_with fail
      refine (AW.out _).mono ?_
      rintro e w9 ⟨rfl, hb⟩
      have HB6 := Lib.hid (HB5.out.trans (hb.mono HB5.out.size))
      have HM6 := Lib.hid (HM5.out.below hb)
      have HR6 := Lib.hid (vec_step HR5.out hb)
      have HL6 := Lib.hid (HL5.out.below hb (Nat.le_refl _))
      have HP6 := Lib.hid (HP5.out.below hb (Nat.le_refl _))
      have HQ6 := Lib.hid (HQ5.out.below hb (Nat.le_refl _))
      have HV6 := Lib.hid (HV5.out.below hb (Nat.le_refl _))
      have HU6 := Lib.hid (HU5.out.below hb)
      have HE6 := Lib.hid (vec_step HE5.out hb)
      clear HB5 HM5 HR5 HL5 HP5 HQ5 HV5 HU5 HE5 hb 
      go_wp2_with fail
      go_ret
      exact ⟨rfl, HB6.out⟩

end Go.Proofs.Ytdmmjmdnljhooaa.MeshX
