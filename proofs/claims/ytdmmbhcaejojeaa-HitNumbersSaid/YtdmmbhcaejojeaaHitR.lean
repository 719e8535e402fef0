/- The walks of ref13: raised, Box. -/
import Derived.Test.YtdmmbhcaejojeaaHitX
import Derived.Test.YtdmmbhcaejojeaaMeshR
set_option linter.unusedVariables false
set_option linter.unusedSimpArgs false
namespace Go.Proofs.Ytdmmbhcaejojeaa.HitR
open Go.RowKit Go.Sort FixM Base Num FixW Qb Qt Qa Qf VecW VecV VecU LightQ LightC MeshM Rec MeshA MeshB MeshC MeshD MeshE MeshP MeshR HitM HitT HitB HitX
set_option maxRecDepth 100000 in
theorem raised_any (a b : Int) (w : World) : Calls Try.prog 56 #[.int .i64 a, .int .i64 b] w (fun e w' => e = .returned (.int .i64 (maxI a b)) ∧ w = w') := by
  unfold maxI
  by_cases h : a < b
  · have d0 : decide (a < b) = true := decide_eq_true h
    rw [if_pos h]
    clear h
    go_enter Try.func56, Try.ntmps56
    go_wp2_with fail
    go_ret
    exact ⟨rfl, rfl⟩
  · have d0 : decide (a < b) = false := decide_eq_false h
    rw [if_neg h]
    clear h
    go_enter Try.func56, Try.ntmps56
    go_wp2_with fail
    go_ret
    exact ⟨rfl, rfl⟩
def ax (v : V3) : Nat → Int
  | 0 => v.x
  | 1 => v.y
  | _ => v.z
/-- what is still to be brought in: n sides -/
def restF (r : Ry) (b : Bx) : Nat → Int × Int → Option Int
  | 0, s => if s.1 ≤ s.2 then some s.1 else none
  | n + 1, s => (sideF (ax r.o (2 - n)) (ax r.d (2 - n)) (ax b.lo (2 - n)) (ax b.hi (2 - n)) s).bind (restF r b n)
theorem rest_all (r : Ry) (b : Bx) : restF r b 3 (0, MOST) = boxH r b := rfl
set_option maxRecDepth 100000 in
set_option maxHeartbeats 16000000 in
theorem rhbox_any (r : Ry) (b : Bx) (hr : r.ok) (hb : HitM.Bx.ok b) (w : World) : Calls Try.prog 18 #[rayV r, boxV b] w (VTo (boxR (boxH r b)) w) := by
  have HE := Lib.hid (rest_all r b)
  have HN0 := Lib.hid (show ∀ n f, restF r b 0 (n, f) = if n ≤ f then some n else none from fun _ _ => rfl)
  have HN1 := Lib.hid (show ∀ s, restF r b 1 s = (sideF r.o.z r.d.z b.lo.z b.hi.z s).bind (restF r b 0) from fun _ => rfl)
  have HN2 := Lib.hid (show ∀ s, restF r b 2 s = (sideF r.o.y r.d.y b.lo.y b.hi.y s).bind (restF r b 1) from fun _ => rfl)
  have HN3 := Lib.hid (show ∀ s, restF r b 3 s = (sideF r.o.x r.d.x b.lo.x b.hi.x s).bind (restF r b 2) from fun _ => rfl)
  generalize boxH r b = res at HE ⊢
  generalize restF r b = rest at HE HN0 HN1 HN2 HN3
  obtain ⟨⟨oX, oY, oZ⟩, ⟨dX, dY, dZ⟩⟩ := r
  obtain ⟨⟨lX, lY, lZ⟩, ⟨hX, hY, hZ⟩⟩ := b
  dsimp only [rayV, boxV] at *
  have HRK := Lib.hid hr
  have HBK := Lib.hid hb
  clear hr hb
  have HM : Hid (MOST = 9223372036854775807) := Lib.hid rfl
  rw [HM.out] at HE
  clear HM
  have hA := alloc2_0 w (.cells #[.int .i64 oX, .int .i64 oY, .int .i64 oZ, .int .i64 dX, .int .i64 dY, .int .i64 dZ] 25) (.cells #[.int .i64 lX, .int .i64 lY, .int .i64 lZ, .int .i64 hX, .int .i64 hY, .int .i64 hZ] 29)
  have hB_ := alloc2_1 w (.cells #[.int .i64 oX, .int .i64 oY, .int .i64 oZ, .int .i64 dX, .int .i64 dY, .int .i64 dZ] 25) (.cells #[.int .i64 lX, .int .i64 lY, .int .i64 lZ, .int .i64 hX, .int .i64 hY, .int .i64 hZ] 29)
  have hB0 := alloc2_below w (.cells #[.int .i64 oX, .int .i64 oY, .int .i64 oZ, .int .i64 dX, .int .i64 dY, .int .i64 dZ] 25) (.cells #[.int .i64 lX, .int .i64 lY, .int .i64 lZ, .int .i64 hX, .int .i64 hY, .int .i64 hZ] 29)
  obtain ⟨W, hW⟩ : ∃ ww, ww = (w.alloc (.cells #[.int .i64 oX, .int .i64 oY, .int .i64 oZ, .int .i64 dX, .int .i64 dY, .int .i64 dZ] 25)).alloc (.cells #[.int .i64 lX, .int .i64 lY, .int .i64 lZ, .int .i64 hX, .int .i64 hY, .int .i64 hZ] 29) := ⟨_, rfl⟩
  rw [← hW] at hA hB_ hB0
  have HR0 := Lib.hid hA
  have HX0 := Lib.hid hB_
  have HB0 := Lib.hid hB0
  have HWW := Lib.hid hW
  clear hA hB_ hB0 hW
  go_enter Try.func18, Try.ntmps18
  go_upto_region 1 with (fail)
  rw [← HWW.out]
  clear HWW
  have cHR0 := cell_row HR0.out 0 _ rfl
  have cHR1 := cell_row HR0.out 1 _ rfl
  have cHR2 := cell_row HR0.out 2 _ rfl
  go_upto_region 2 with (fail)
  clear cHR0 cHR1 cHR2
  have hx := ext_alloc W (.cells #[.int .i64 oX, .int .i64 oY, .int .i64 oZ] 70)
  have hn := heap_alloc_new W (.cells #[.int .i64 oX, .int .i64 oY, .int .i64 oZ] 70)
  obtain ⟨y1, hW⟩ : ∃ ww, ww = W.alloc (.cells #[.int .i64 oX, .int .i64 oY, .int .i64 oZ] 70) := ⟨_, rfl⟩
  rw [← hW] at hx hn ⊢
  clear hW
  have HR1 := Lib.hid (vec_step HR0.out hx)
  have HX1 := Lib.hid (vec_step HX0.out hx)
  have HB1 := Lib.hid (HB0.out.trans (hx.mono HB0.out.size))
  clear HR0 HX0 HB0 hx  
  have HGo1 := Lib.hid (hn)
  clear hn
  generalize W.heap.size = gHGo at HGo1 ⊢
  have cHR3 := cell_row HR1.out 3 _ rfl
  have cHR4 := cell_row HR1.out 4 _ rfl
  have cHR5 := cell_row HR1.out 5 _ rfl
  go_upto_region 3 with (fail)
  clear cHR3 cHR4 cHR5
  have hx := ext_alloc y1 (.cells #[.int .i64 dX, .int .i64 dY, .int .i64 dZ] 70)
  have hn := heap_alloc_new y1 (.cells #[.int .i64 dX, .int .i64 dY, .int .i64 dZ] 70)
  obtain ⟨y2, hW⟩ : ∃ ww, ww = y1.alloc (.cells #[.int .i64 dX, .int .i64 dY, .int .i64 dZ] 70) := ⟨_, rfl⟩
  rw [← hW] at hx hn ⊢
  clear hW
  have HR2 := Lib.hid (vec_step HR1.out hx)
  have HX2 := Lib.hid (vec_step HX1.out hx)
  have HB2 := Lib.hid (HB1.out.trans (hx.mono HB1.out.size))
  have HGo2 := Lib.hid (vec_step HGo1.out hx)
  clear HR1 HX1 HB1 HGo1 hx  
  have HGd2 := Lib.hid (hn)
  clear hn
  generalize y1.heap.size = gHGd at HGd2 ⊢
  have cHX0 := cell_row HX2.out 0 _ rfl
  have cHX1 := cell_row HX2.out 1 _ rfl
  have cHX2 := cell_row HX2.out 2 _ rfl
  go_upto_region 4 with (fail)
  clear cHX0 cHX1 cHX2
  have hx := ext_alloc y2 (.cells #[.int .i64 lX, .int .i64 lY, .int .i64 lZ] 70)
  have hn := heap_alloc_new y2 (.cells #[.int .i64 lX, .int .i64 lY, .int .i64 lZ] 70)
  obtain ⟨y3, hW⟩ : ∃ ww, ww = y2.alloc (.cells #[.int .i64 lX, .int .i64 lY, .int .i64 lZ] 70) := ⟨_, rfl⟩
  rw [← hW] at hx hn ⊢
  clear hW
  have HR3 := Lib.hid (vec_step HR2.out hx)
  have HX3 := Lib.hid (vec_step HX2.out hx)
  have HB3 := Lib.hid (HB2.out.trans (hx.mono HB2.out.size))
  have HGo3 := Lib.hid (vec_step HGo2.out hx)
  have HGd3 := Lib.hid (vec_step HGd2.out hx)
  clear HR2 HX2 HB2 HGo2 HGd2 hx  
  have HGl3 := Lib.hid (hn)
  clear hn
  generalize y2.heap.size = gHGl at HGl3 ⊢
  have cHX3 := cell_row HX3.out 3 _ rfl
  have cHX4 := cell_row HX3.out 4 _ rfl
  have cHX5 := cell_row HX3.out 5 _ rfl
  go_upto_region 5 with (fail)
  clear cHX3 cHX4 cHX5
  have hx := ext_alloc y3 (.cells #[.int .i64 hX, .int .i64 hY, .int .i64 hZ] 70)
  have hn := heap_alloc_new y3 (.cells #[.int .i64 hX, .int .i64 hY, .int .i64 hZ] 70)
  obtain ⟨y4, hW⟩ : ∃ ww, ww = y3.alloc (.cells #[.int .i64 hX, .int .i64 hY, .int .i64 hZ] 70) := ⟨_, rfl⟩
  rw [← hW] at hx hn ⊢
  clear hW
  have HR4 := Lib.hid (vec_step HR3.out hx)
  have HX4 := Lib.hid (vec_step HX3.out hx)
  have HB4 := Lib.hid (HB3.out.trans (hx.mono HB3.out.size))
  have HGo4 := Lib.hid (vec_step HGo3.out hx)
  have HGd4 := Lib.hid (vec_step HGd3.out hx)
  have HGl4 := Lib.hid (vec_step HGl3.out hx)
  clear HR3 HX3 HB3 HGo3 HGd3 HGl3 hx  
  have HGh4 := Lib.hid (hn)
  clear hn
  generalize y3.heap.size = gHGh at HGh4 ⊢
  clear HR4 HX4
  go_wp2_with fail
  go_loopg [10, 11, 12] 3 (fun r n10 n11 n12 wr => ∃ k n f : Int, 0 ≤ k ∧ k + (r : Int) = 3 ∧ n10 = .int .i64 n ∧ n11 = .int .i64 f ∧ n12 = .int .i64 k ∧ Hid (Below y4.heap.size y4 wr ∧ rest r (n, f) = res))
  case atStart => exact ⟨0, 0, 9223372036854775807, by omega, by omega, rfl, rfl, rfl, Lib.hid ⟨Below.refl _ _, HE.out⟩⟩
  case round =>
    obtain ⟨k, n, f, hk0, hkr, rfl, rfl, rfl, hin⟩ := hrel
    have hb := hin.out.1
    have HRS := Lib.hid hin.out.2
    clear hin
    have HW5 := Lib.hid hb
    have HB5 := Lib.hid (HB4.out.trans (hb.mono HB4.out.size))
    have HGo5 := Lib.hid (vec_step HGo4.out hb)
    have HGd5 := Lib.hid (vec_step HGd4.out hb)
    have HGl5 := Lib.hid (vec_step HGl4.out hb)
    have HGh5 := Lib.hid (vec_step HGh4.out hb)
    clear HB4 HGo4 HGd4 HGl4 HGh4 hb  
    rcases (show k = 0 ∨ k = 1 ∨ k = 2 ∨ k = 3 by omega) with rfl | rfl | rfl | rfl
    · have hg : gk = 3 := by omega
      subst hg
      rw [HN3.out] at HRS
      unfold sideF at HRS
      dsimp only at HRS
      by_cases hd : dX = 0
      · have dd : (dX == 0) = true := beq_iff_eq.mpr hd
        have HR2 := HRS.out
        rw [if_pos hd] at HR2
        have HRS2 := Lib.hid HR2
        clear HR2 HRS hd
        by_cases h1 : lX ≤ oX
        · have d1 : decide (oX < lX) = false := decide_eq_false (by omega)
          by_cases h2 : oX ≤ hX
          · have d2 : decide (hX < oX) = false := decide_eq_false (by omega)
            have hr2 := HRS2.out
            rw [if_pos ⟨h1, h2⟩, Option.bind_some] at hr2
            have HRS3 := Lib.hid hr2
            clear hr2 HRS2 h1 h2
            have cHGd0 := cell_row HGd5.out 0 _ rfl
            go_upto_region 10 with (fail)
            clear cHGd0
            have fHGo0 := fun d os => cell_regrown (cell_row HGo5.out 0 _ rfl) d os
            have fHGl0 := fun d os => cell_regrown (cell_row HGl5.out 0 _ rfl) d os
            have fHGh0 := fun d os => cell_regrown (cell_row HGh5.out 0 _ rfl) d os
            refine wp_region_quiet_below (by kernel_rfl) (by kernel_rfl) ?_
            repeat (go_big_quiet_step (first | fail))
            refine wpQuiet_nil ?_
            first | (rintro _ ⟨⟨dq, osq⟩, rfl⟩) | (rintro ⟨dq, osq⟩)
            have hb := below_regrown wr dq osq
            obtain ⟨y5, hW⟩ : ∃ ww, ww = grow (redrawn wr dq) osq := ⟨_, rfl⟩
            rw [← hW] at hb ⊢
            clear hW
            have HW6 := Lib.hid (HW5.out.trans (hb.mono HW5.out.size))
            have HB6 := Lib.hid (HB5.out.trans (hb.mono HB5.out.size))
            have HGo6 := Lib.hid (vec_step HGo5.out hb)
            have HGd6 := Lib.hid (vec_step HGd5.out hb)
            have HGl6 := Lib.hid (vec_step HGl5.out hb)
            have HGh6 := Lib.hid (vec_step HGh5.out hb)
            clear HB5 HGo5 HGd5 HGl5 HGh5 hb  HW5 fHGo0 fHGl0 fHGh0
            go_wp2_with fail
            go_roundg 2
            case measure => omega
            case rel => exact ⟨1, n, f, by omega, by omega, rfl, rfl, rfl, Lib.hid ⟨HW6.out, HRS3.out⟩⟩
          · have d2 : decide (hX < oX) = true := decide_eq_true (by omega)
            have hr2 := HRS2.out
            rw [if_neg (by omega)] at hr2
            have HRS3 := Lib.hid hr2
            clear hr2 HRS2 h1 h2
            have hres : res = none := by have := HRS3.out; rw [← this]; rfl
            subst hres
            have cHGd0 := cell_row HGd5.out 0 _ rfl
            go_upto_region 10 with (fail)
            clear cHGd0
            have fHGo0 := fun d os => cell_regrown (cell_row HGo5.out 0 _ rfl) d os
            have fHGl0 := fun d os => cell_regrown (cell_row HGl5.out 0 _ rfl) d os
            have fHGh0 := fun d os => cell_regrown (cell_row HGh5.out 0 _ rfl) d os
            refine wp_region_quiet_below (by kernel_rfl) (by kernel_rfl) ?_
            repeat (go_big_quiet_step (first | fail))
            refine wpQuiet_nil ?_
            first | (rintro _ ⟨⟨dq, osq⟩, rfl⟩) | (rintro ⟨dq, osq⟩)
            have hb := below_regrown wr dq osq
            obtain ⟨y6, hW⟩ : ∃ ww, ww = grow (redrawn wr dq) osq := ⟨_, rfl⟩
            rw [← hW] at hb ⊢
            clear hW
            have HW6 := Lib.hid (HW5.out.trans (hb.mono HW5.out.size))
            have HB6 := Lib.hid (HB5.out.trans (hb.mono HB5.out.size))
            have HGo6 := Lib.hid (vec_step HGo5.out hb)
            have HGd6 := Lib.hid (vec_step HGd5.out hb)
            have HGl6 := Lib.hid (vec_step HGl5.out hb)
            have HGh6 := Lib.hid (vec_step HGh5.out hb)
            clear HB5 HGo5 HGd5 HGl5 HGh5 hb  HW5 fHGo0 fHGl0 fHGh0
            go_wp2_with fail
            go_ret2
            exact ⟨rfl, HB6.out⟩
        · have d1 : decide (oX < lX) = true := decide_eq_true (by omega)
          have hr2 := HRS2.out
          rw [if_neg (by omega)] at hr2
          have HRS3 := Lib.hid hr2
          clear hr2 HRS2 h1
          have hres : res = none := by have := HRS3.out; rw [← this]; rfl
          subst hres
          have cHGd0 := cell_row HGd5.out 0 _ rfl
          go_upto_region 10 with (fail)
          clear cHGd0
          have fHGo0 := fun d os => cell_regrown (cell_row HGo5.out 0 _ rfl) d os
          have fHGl0 := fun d os => cell_regrown (cell_row HGl5.out 0 _ rfl) d os
          have fHGh0 := fun d os => cell_regrown (cell_row HGh5.out 0 _ rfl) d os
          refine wp_region_quiet_below (by kernel_rfl) (by kernel_rfl) ?_
          repeat (go_big_quiet_step (first | fail))
          refine wpQuiet_nil ?_
          first | (rintro _ ⟨⟨dq, osq⟩, rfl⟩) | (rintro ⟨dq, osq⟩)
          have hb := below_regrown wr dq osq
          obtain ⟨y7, hW⟩ : ∃ ww, ww = grow (redrawn wr dq) osq := ⟨_, rfl⟩
          rw [← hW] at hb ⊢
          clear hW
          have HW6 := Lib.hid (HW5.out.trans (hb.mono HW5.out.size))
          have HB6 := Lib.hid (HB5.out.trans (hb.mono HB5.out.size))
          have HGo6 := Lib.hid (vec_step HGo5.out hb)
          have HGd6 := Lib.hid (vec_step HGd5.out hb)
          have HGl6 := Lib.hid (vec_step HGl5.out hb)
          have HGh6 := Lib.hid (vec_step HGh5.out hb)
          clear HB5 HGo5 HGd5 HGl5 HGh5 hb  HW5 fHGo0 fHGl0 fHGh0
          go_wp2_with fail
          go_ret2
          exact ⟨rfl, HB6.out⟩
      · have dd : (dX == 0) = false := beq_eq_false_iff_ne.mpr hd
        have HR2 := HRS.out
        rw [if_neg hd, Option.bind_some] at HR2
        clear HRS hd
        unfold loF hiF at HR2
        have io := HRK.out.1.1
        have id_ := HRK.out.2.1
        have il := HBK.out.1.1
        have ih := HBK.out.2.1
        obtain ⟨a1, ha1⟩ : ∃ zz, zz = subF lX oX := ⟨_, rfl⟩
        obtain ⟨a2, ha2⟩ : ∃ zz, zz = subF hX oX := ⟨_, rfl⟩
        have ia1 : In a1 := by rw [ha1]; exact in_sub _ _
        have ia2 : In a2 := by rw [ha2]; exact in_sub _ _
        rw [← ha1, ← ha2] at HR2
        obtain ⟨x0, hx0⟩ : ∃ zz, zz = divF a1 dX := ⟨_, rfl⟩
        obtain ⟨y0, hy0⟩ : ∃ zz, zz = divF a2 dX := ⟨_, rfl⟩
        rw [← hx0, ← hy0] at HR2
        have C1 : Hid (∀ w, Calls Try.prog 46 #[.int .i64 lX, .int .i64 oX] w (fun e w' => e = .returned (.int .i64 a1) ∧ w = w')) := Lib.hid (fun w => by have := rsub_any lX oX il.1 il.2 io.1 io.2 w; rw [← ha1] at this; exact this)
        have C2 : Hid (∀ w, Calls Try.prog 46 #[.int .i64 hX, .int .i64 oX] w (fun e w' => e = .returned (.int .i64 a2) ∧ w = w')) := Lib.hid (fun w => by have := rsub_any hX oX ih.1 ih.2 io.1 io.2 w; rw [← ha2] at this; exact this)
        have C3 : Hid (∀ w, Calls Try.prog 45 #[.int .i64 a1, .int .i64 dX] w (fun e w' => e = .returned (.int .i64 x0) ∧ w = w')) := Lib.hid (fun w => by have := FixK.rdiv_any a1 dX ia1.1 ia1.2 id_.1 id_.2 w; rw [← hx0] at this; exact this)
        have C4 : Hid (∀ w, Calls Try.prog 45 #[.int .i64 a2, .int .i64 dX] w (fun e w' => e = .returned (.int .i64 y0) ∧ w = w')) := Lib.hid (fun w => by have := FixK.rdiv_any a2 dX ia2.1 ia2.2 id_.1 id_.2 w; rw [← hy0] at this; exact this)
        have HRS2 := Lib.hid HR2
        clear HR2 io id_ il ih ha1 ha2 ia1 ia2 hx0 hy0
        have cHGd0 := cell_row HGd5.out 0 _ rfl
        go_upto_region 12 with (fail)
        clear cHGd0
        have Q1 := Lib.hid (qs (P := Try.prog) (W := wr) C1.out)
        have Q2 := Lib.hid (qs (P := Try.prog) (W := wr) C3.out)
        have fHGo0 := fun d os => cell_regrown (cell_row HGo5.out 0 _ rfl) d os
        have fHGd0 := fun d os => cell_regrown (cell_row HGd5.out 0 _ rfl) d os
        have fHGl0 := fun d os => cell_regrown (cell_row HGl5.out 0 _ rfl) d os
        refine wp_region_quiet_below (by kernel_rfl) (by kernel_rfl) ?_
        repeat (go_big_quiet_step (first | (with_reducible exact Q1.out _ _) | (with_reducible exact Q2.out _ _)))
        refine wpQuiet_nil ?_
        first | (rintro _ ⟨⟨dq, osq⟩, rfl⟩) | (rintro ⟨dq, osq⟩)
        have hb := below_regrown wr dq osq
        obtain ⟨y8, hW⟩ : ∃ ww, ww = grow (redrawn wr dq) osq := ⟨_, rfl⟩
        rw [← hW] at hb ⊢
        clear hW
        have HW6 := Lib.hid (HW5.out.trans (hb.mono HW5.out.size))
        have HB6 := Lib.hid (HB5.out.trans (hb.mono HB5.out.size))
        have HGo6 := Lib.hid (vec_step HGo5.out hb)
        have HGd6 := Lib.hid (vec_step HGd5.out hb)
        have HGl6 := Lib.hid (vec_step HGl5.out hb)
        have HGh6 := Lib.hid (vec_step HGh5.out hb)
        clear HB5 HGo5 HGd5 HGl5 HGh5 hb  HW5 fHGo0 fHGd0 fHGl0
        clear Q1 Q2 C1 C3
        go_upto_region 13 with (fail)
        have Q1 := Lib.hid (qs (P := Try.prog) (W := y8) C2.out)
        have Q2 := Lib.hid (qs (P := Try.prog) (W := y8) C4.out)
        have fHGo0 := fun d os => cell_regrown (cell_row HGo6.out 0 _ rfl) d os
        have fHGd0 := fun d os => cell_regrown (cell_row HGd6.out 0 _ rfl) d os
        have fHGh0 := fun d os => cell_regrown (cell_row HGh6.out 0 _ rfl) d os
        refine wp_region_quiet_below (by kernel_rfl) (by kernel_rfl) ?_
        repeat (go_big_quiet_step (first | (with_reducible exact Q1.out _ _) | (with_reducible exact Q2.out _ _)))
        refine wpQuiet_nil ?_
        first | (rintro _ ⟨⟨dq, osq⟩, rfl⟩) | (rintro ⟨dq, osq⟩)
        have hb := below_regrown y8 dq osq
        obtain ⟨y9, hW⟩ : ∃ ww, ww = grow (redrawn y8 dq) osq := ⟨_, rfl⟩
        rw [← hW] at hb ⊢
        clear hW
        have HW7 := Lib.hid (HW6.out.trans (hb.mono HW6.out.size))
        have HB7 := Lib.hid (HB6.out.trans (hb.mono HB6.out.size))
        have HGo7 := Lib.hid (vec_step HGo6.out hb)
        have HGd7 := Lib.hid (vec_step HGd6.out hb)
        have HGl7 := Lib.hid (vec_step HGl6.out hb)
        have HGh7 := Lib.hid (vec_step HGh6.out hb)
        clear HB6 HGo6 HGd6 HGl6 HGh6 hb  HW6 fHGo0 fHGd0 fHGh0
        clear Q1 Q2 C2 C4
        have cHGd0 := cell_row HGd7.out 0 _ rfl
        by_cases hn : dX < 0
        · have dn : decide (dX < 0) = true := decide_eq_true hn
          have hr2 := HRS2.out
          rw [if_pos hn, if_pos hn] at hr2
          clear HRS2 hn
          unfold maxI minI at hr2
          by_cases h1 : n < y0
          · have d1 : decide (n < y0) = true := decide_eq_true h1
            rw [if_pos h1] at hr2
            clear h1
            by_cases h2 : x0 < f
            · have d2 : decide (x0 < f) = true := decide_eq_true h2
              rw [if_pos h2] at hr2
              have HRS3 := Lib.hid hr2
              clear h2 hr2
              go_wp2_with fail
              go_roundg 2
              case measure => omega
              case rel => exact ⟨1, y0, x0, by omega, by omega, rfl, rfl, rfl, Lib.hid ⟨HW7.out, HRS3.out⟩⟩
            · have d2 : decide (x0 < f) = false := decide_eq_false h2
              rw [if_neg h2] at hr2
              have HRS3 := Lib.hid hr2
              clear h2 hr2
              go_wp2_with fail
              go_roundg 2
              case measure => omega
              case rel => exact ⟨1, y0, f, by omega, by omega, rfl, rfl, rfl, Lib.hid ⟨HW7.out, HRS3.out⟩⟩
          · have d1 : decide (n < y0) = false := decide_eq_false h1
            rw [if_neg h1] at hr2
            clear h1
            by_cases h2 : x0 < f
            · have d2 : decide (x0 < f) = true := decide_eq_true h2
              rw [if_pos h2] at hr2
              have HRS3 := Lib.hid hr2
              clear h2 hr2
              go_wp2_with fail
              go_roundg 2
              case measure => omega
              case rel => exact ⟨1, n, x0, by omega, by omega, rfl, rfl, rfl, Lib.hid ⟨HW7.out, HRS3.out⟩⟩
            · have d2 : decide (x0 < f) = false := decide_eq_false h2
              rw [if_neg h2] at hr2
              have HRS3 := Lib.hid hr2
              clear h2 hr2
              go_wp2_with fail
              go_roundg 2
              case measure => omega
              case rel => exact ⟨1, n, f, by omega, by omega, rfl, rfl, rfl, Lib.hid ⟨HW7.out, HRS3.out⟩⟩
        · have dn : decide (dX < 0) = false := decide_eq_false hn
          have hr2 := HRS2.out
          rw [if_neg hn, if_neg hn] at hr2
          clear HRS2 hn
          unfold maxI minI at hr2
          by_cases h1 : n < x0
          · have d1 : decide (n < x0) = true := decide_eq_true h1
            rw [if_pos h1] at hr2
            clear h1
            by_cases h2 : y0 < f
            · have d2 : decide (y0 < f) = true := decide_eq_true h2
              rw [if_pos h2] at hr2
              have HRS3 := Lib.hid hr2
              clear h2 hr2
              go_wp2_with fail
              go_roundg 2
              case measure => omega
              case rel => exact ⟨1, x0, y0, by omega, by omega, rfl, rfl, rfl, Lib.hid ⟨HW7.out, HRS3.out⟩⟩
            · have d2 : decide (y0 < f) = false := decide_eq_false h2
              rw [if_neg h2] at hr2
              have HRS3 := Lib.hid hr2
              clear h2 hr2
              go_wp2_with fail
              go_roundg 2
              case measure => omega
              case rel => exact ⟨1, x0, f, by omega, by omega, rfl, rfl, rfl, Lib.hid ⟨HW7.out, HRS3.out⟩⟩
          · have d1 : decide (n < x0) = false := decide_eq_false h1
            rw [if_neg h1] at hr2
            clear h1
            by_cases h2 : y0 < f
            · have d2 : decide (y0 < f) = true := decide_eq_true h2
              rw [if_pos h2] at hr2
              have HRS3 := Lib.hid hr2
              clear h2 hr2
              go_wp2_with fail
              go_roundg 2
              case measure => omega
              case rel => exact ⟨1, n, y0, by omega, by omega, rfl, rfl, rfl, Lib.hid ⟨HW7.out, HRS3.out⟩⟩
            · have d2 : decide (y0 < f) = false := decide_eq_false h2
              rw [if_neg h2] at hr2
              have HRS3 := Lib.hid hr2
              clear h2 hr2
              go_wp2_with fail
              go_roundg 2
              case measure => omega
              case rel => exact ⟨1, n, f, by omega, by omega, rfl, rfl, rfl, Lib.hid ⟨HW7.out, HRS3.out⟩⟩
    · have hg : gk = 2 := by omega
      subst hg
      rw [HN2.out] at HRS
      unfold sideF at HRS
      dsimp only at HRS
      by_cases hd : dY = 0
      · have dd : (dY == 0) = true := beq_iff_eq.mpr hd
        have HR2 := HRS.out
        rw [if_pos hd] at HR2
        have HRS2 := Lib.hid HR2
        clear HR2 HRS hd
        by_cases h1 : lY ≤ oY
        · have d1 : decide (oY < lY) = false := decide_eq_false (by omega)
          by_cases h2 : oY ≤ hY
          · have d2 : decide (hY < oY) = false := decide_eq_false (by omega)
            have hr2 := HRS2.out
            rw [if_pos ⟨h1, h2⟩, Option.bind_some] at hr2
            have HRS3 := Lib.hid hr2
            clear hr2 HRS2 h1 h2
            have cHGd1 := cell_row HGd5.out 1 _ rfl
            go_upto_region 10 with (fail)
            clear cHGd1
            have fHGo1 := fun d os => cell_regrown (cell_row HGo5.out 1 _ rfl) d os
            have fHGl1 := fun d os => cell_regrown (cell_row HGl5.out 1 _ rfl) d os
            have fHGh1 := fun d os => cell_regrown (cell_row HGh5.out 1 _ rfl) d os
            refine wp_region_quiet_below (by kernel_rfl) (by kernel_rfl) ?_
            repeat (go_big_quiet_step (first | fail))
            refine wpQuiet_nil ?_
            first | (rintro _ ⟨⟨dq, osq⟩, rfl⟩) | (rintro ⟨dq, osq⟩)
            have hb := below_regrown wr dq osq
            obtain ⟨y10, hW⟩ : ∃ ww, ww = grow (redrawn wr dq) osq := ⟨_, rfl⟩
            rw [← hW] at hb ⊢
            clear hW
            have HW6 := Lib.hid (HW5.out.trans (hb.mono HW5.out.size))
            have HB6 := Lib.hid (HB5.out.trans (hb.mono HB5.out.size))
            have HGo6 := Lib.hid (vec_step HGo5.out hb)
            have HGd6 := Lib.hid (vec_step HGd5.out hb)
            have HGl6 := Lib.hid (vec_step HGl5.out hb)
            have HGh6 := Lib.hid (vec_step HGh5.out hb)
            clear HB5 HGo5 HGd5 HGl5 HGh5 hb  HW5 fHGo1 fHGl1 fHGh1
            go_wp2_with fail
            go_roundg 1
            case measure => omega
            case rel => exact ⟨2, n, f, by omega, by omega, rfl, rfl, rfl, Lib.hid ⟨HW6.out, HRS3.out⟩⟩
          · have d2 : decide (hY < oY) = true := decide_eq_true (by omega)
            have hr2 := HRS2.out
            rw [if_neg (by omega)] at hr2
            have HRS3 := Lib.hid hr2
            clear hr2 HRS2 h1 h2
            have hres : res = none := by have := HRS3.out; rw [← this]; rfl
            subst hres
            have cHGd1 := cell_row HGd5.out 1 _ rfl
            go_upto_region 10 with (fail)
            clear cHGd1
            have fHGo1 := fun d os => cell_regrown (cell_row HGo5.out 1 _ rfl) d os
            have fHGl1 := fun d os => cell_regrown (cell_row HGl5.out 1 _ rfl) d os
            have fHGh1 := fun d os => cell_regrown (cell_row HGh5.out 1 _ rfl) d os
            refine wp_region_quiet_below (by kernel_rfl) (by kernel_rfl) ?_
            repeat (go_big_quiet_step (first | fail))
            refine wpQuiet_nil ?_
            first | (rintro _ ⟨⟨dq, osq⟩, rfl⟩) | (rintro ⟨dq, osq⟩)
            have hb := below_regrown wr dq osq
            obtain ⟨y11, hW⟩ : ∃ ww, ww = grow (redrawn wr dq) osq := ⟨_, rfl⟩
            rw [← hW] at hb ⊢
            clear hW
            have HW6 := Lib.hid (HW5.out.trans (hb.mono HW5.out.size))
            have HB6 := Lib.hid (HB5.out.trans (hb.mono HB5.out.size))
            have HGo6 := Lib.hid (vec_step HGo5.out hb)
            have HGd6 := Lib.hid (vec_step HGd5.out hb)
            have HGl6 := Lib.hid (vec_step HGl5.out hb)
            have HGh6 := Lib.hid (vec_step HGh5.out hb)
            clear HB5 HGo5 HGd5 HGl5 HGh5 hb  HW5 fHGo1 fHGl1 fHGh1
            go_wp2_with fail
            go_ret2
            exact ⟨rfl, HB6.out⟩
        · have d1 : decide (oY < lY) = true := decide_eq_true (by omega)
          have hr2 := HRS2.out
          rw [if_neg (by omega)] at hr2
          have HRS3 := Lib.hid hr2
          clear hr2 HRS2 h1
          have hres : res = none := by have := HRS3.out; rw [← this]; rfl
          subst hres
          have cHGd1 := cell_row HGd5.out 1 _ rfl
          go_upto_region 10 with (fail)
          clear cHGd1
          have fHGo1 := fun d os => cell_regrown (cell_row HGo5.out 1 _ rfl) d os
          have fHGl1 := fun d os => cell_regrown (cell_row HGl5.out 1 _ rfl) d os
          have fHGh1 := fun d os => cell_regrown (cell_row HGh5.out 1 _ rfl) d os
          refine wp_region_quiet_below (by kernel_rfl) (by kernel_rfl) ?_
          repeat (go_big_quiet_step (first | fail))
          refine wpQuiet_nil ?_
          first | (rintro _ ⟨⟨dq, osq⟩, rfl⟩) | (rintro ⟨dq, osq⟩)
          have hb := below_regrown wr dq osq
          obtain ⟨y12, hW⟩ : ∃ ww, ww = grow (redrawn wr dq) osq := ⟨_, rfl⟩
          rw [← hW] at hb ⊢
          clear hW
          have HW6 := Lib.hid (HW5.out.trans (hb.mono HW5.out.size))
          have HB6 := Lib.hid (HB5.out.trans (hb.mono HB5.out.size))
          have HGo6 := Lib.hid (vec_step HGo5.out hb)
          have HGd6 := Lib.hid (vec_step HGd5.out hb)
          have HGl6 := Lib.hid (vec_step HGl5.out hb)
          have HGh6 := Lib.hid (vec_step HGh5.out hb)
          clear HB5 HGo5 HGd5 HGl5 HGh5 hb  HW5 fHGo1 fHGl1 fHGh1
          go_wp2_with fail
          go_ret2
          exact ⟨rfl, HB6.out⟩
      · have dd : (dY == 0) = false := beq_eq_false_iff_ne.mpr hd
        have HR2 := HRS.out
        rw [if_neg hd, Option.bind_some] at HR2
        clear HRS hd
        unfold loF hiF at HR2
        have io := HRK.out.1.2.1
        have id_ := HRK.out.2.2.1
        have il := HBK.out.1.2.1
        have ih := HBK.out.2.2.1
        obtain ⟨a1, ha1⟩ : ∃ zz, zz = subF lY oY := ⟨_, rfl⟩
        obtain ⟨a2, ha2⟩ : ∃ zz, zz = subF hY oY := ⟨_, rfl⟩
        have ia1 : In a1 := by rw [ha1]; exact in_sub _ _
        have ia2 : In a2 := by rw [ha2]; exact in_sub _ _
        rw [← ha1, ← ha2] at HR2
        obtain ⟨x0, hx0⟩ : ∃ zz, zz = divF a1 dY := ⟨_, rfl⟩
        obtain ⟨y0, hy0⟩ : ∃ zz, zz = divF a2 dY := ⟨_, rfl⟩
        rw [← hx0, ← hy0] at HR2
        have C1 : Hid (∀ w, Calls Try.prog 46 #[.int .i64 lY, .int .i64 oY] w (fun e w' => e = .returned (.int .i64 a1) ∧ w = w')) := Lib.hid (fun w => by have := rsub_any lY oY il.1 il.2 io.1 io.2 w; rw [← ha1] at this; exact this)
        have C2 : Hid (∀ w, Calls Try.prog 46 #[.int .i64 hY, .int .i64 oY] w (fun e w' => e = .returned (.int .i64 a2) ∧ w = w')) := Lib.hid (fun w => by have := rsub_any hY oY ih.1 ih.2 io.1 io.2 w; rw [← ha2] at this; exact this)
        have C3 : Hid (∀ w, Calls Try.prog 45 #[.int .i64 a1, .int .i64 dY] w (fun e w' => e = .returned (.int .i64 x0) ∧ w = w')) := Lib.hid (fun w => by have := FixK.rdiv_any a1 dY ia1.1 ia1.2 id_.1 id_.2 w; rw [← hx0] at this; exact this)
        have C4 : Hid (∀ w, Calls Try.prog 45 #[.int .i64 a2, .int .i64 dY] w (fun e w' => e = .returned (.int .i64 y0) ∧ w = w')) := Lib.hid (fun w => by have := FixK.rdiv_any a2 dY ia2.1 ia2.2 id_.1 id_.2 w; rw [← hy0] at this; exact this)
        have HRS2 := Lib.hid HR2
        clear HR2 io id_ il ih ha1 ha2 ia1 ia2 hx0 hy0
        have cHGd1 := cell_row HGd5.out 1 _ rfl
        go_upto_region 12 with (fail)
        clear cHGd1
        have Q1 := Lib.hid (qs (P := Try.prog) (W := wr) C1.out)
        have Q2 := Lib.hid (qs (P := Try.prog) (W := wr) C3.out)
        have fHGo1 := fun d os => cell_regrown (cell_row HGo5.out 1 _ rfl) d os
        have fHGd1 := fun d os => cell_regrown (cell_row HGd5.out 1 _ rfl) d os
        have fHGl1 := fun d os => cell_regrown (cell_row HGl5.out 1 _ rfl) d os
        refine wp_region_quiet_below (by kernel_rfl) (by kernel_rfl) ?_
        repeat (go_big_quiet_step (first | (with_reducible exact Q1.out _ _) | (with_reducible exact Q2.out _ _)))
        refine wpQuiet_nil ?_
        first | (rintro _ ⟨⟨dq, osq⟩, rfl⟩) | (rintro ⟨dq, osq⟩)
        have hb := below_regrown wr dq osq
        obtain ⟨y13, hW⟩ : ∃ ww, ww = grow (redrawn wr dq) osq := ⟨_, rfl⟩
        rw [← hW] at hb ⊢
        clear hW
        have HW6 := Lib.hid (HW5.out.trans (hb.mono HW5.out.size))
        have HB6 := Lib.hid (HB5.out.trans (hb.mono HB5.out.size))
        have HGo6 := Lib.hid (vec_step HGo5.out hb)
        have HGd6 := Lib.hid (vec_step HGd5.out hb)
        have HGl6 := Lib.hid (vec_step HGl5.out hb)
        have HGh6 := Lib.hid (vec_step HGh5.out hb)
        clear HB5 HGo5 HGd5 HGl5 HGh5 hb  HW5 fHGo1 fHGd1 fHGl1
        clear Q1 Q2 C1 C3
        go_upto_region 13 with (fail)
        have Q1 := Lib.hid (qs (P := Try.prog) (W := y13) C2.out)
        have Q2 := Lib.hid (qs (P := Try.prog) (W := y13) C4.out)
        have fHGo1 := fun d os => cell_regrown (cell_row HGo6.out 1 _ rfl) d os
        have fHGd1 := fun d os => cell_regrown (cell_row HGd6.out 1 _ rfl) d os
        have fHGh1 := fun d os => cell_regrown (cell_row HGh6.out 1 _ rfl) d os
        refine wp_region_quiet_below (by kernel_rfl) (by kernel_rfl) ?_
        repeat (go_big_quiet_step (first | (with_reducible exact Q1.out _ _) | (with_reducible exact Q2.out _ _)))
        refine wpQuiet_nil ?_
        first | (rintro _ ⟨⟨dq, osq⟩, rfl⟩) | (rintro ⟨dq, osq⟩)
        have hb := below_regrown y13 dq osq
        obtain ⟨y14, hW⟩ : ∃ ww, ww = grow (redrawn y13 dq) osq := ⟨_, rfl⟩
        rw [← hW] at hb ⊢
        clear hW
        have HW7 := Lib.hid (HW6.out.trans (hb.mono HW6.out.size))
        have HB7 := Lib.hid (HB6.out.trans (hb.mono HB6.out.size))
        have HGo7 := Lib.hid (vec_step HGo6.out hb)
        have HGd7 := Lib.hid (vec_step HGd6.out hb)
        have HGl7 := Lib.hid (vec_step HGl6.out hb)
        have HGh7 := Lib.hid (vec_step HGh6.out hb)
        clear HB6 HGo6 HGd6 HGl6 HGh6 hb  HW6 fHGo1 fHGd1 fHGh1
        clear Q1 Q2 C2 C4
        have cHGd1 := cell_row HGd7.out 1 _ rfl
        by_cases hn : dY < 0
        · have dn : decide (dY < 0) = true := decide_eq_true hn
          have hr2 := HRS2.out
          rw [if_pos hn, if_pos hn] at hr2
          clear HRS2 hn
          unfold maxI minI at hr2
          by_cases h1 : n < y0
          · have d1 : decide (n < y0) = true := decide_eq_true h1
            rw [if_pos h1] at hr2
            clear h1
            by_cases h2 : x0 < f
            · have d2 : decide (x0 < f) = true := decide_eq_true h2
              rw [if_pos h2] at hr2
              have HRS3 := Lib.hid hr2
              clear h2 hr2
              go_wp2_with fail
              go_roundg 1
              case measure => omega
              case rel => exact ⟨2, y0, x0, by omega, by omega, rfl, rfl, rfl, Lib.hid ⟨HW7.out, HRS3.out⟩⟩
            · have d2 : decide (x0 < f) = false := decide_eq_false h2
              rw [if_neg h2] at hr2
              have HRS3 := Lib.hid hr2
              clear h2 hr2
              go_wp2_with fail
              go_roundg 1
              case measure => omega
              case rel => exact ⟨2, y0, f, by omega, by omega, rfl, rfl, rfl, Lib.hid ⟨HW7.out, HRS3.out⟩⟩
          · have d1 : decide (n < y0) = false := decide_eq_false h1
            rw [if_neg h1] at hr2
            clear h1
            by_cases h2 : x0 < f
            · have d2 : decide (x0 < f) = true := decide_eq_true h2
              rw [if_pos h2] at hr2
              have HRS3 := Lib.hid hr2
              clear h2 hr2
              go_wp2_with fail
              go_roundg 1
              case measure => omega
              case rel => exact ⟨2, n, x0, by omega, by omega, rfl, rfl, rfl, Lib.hid ⟨HW7.out, HRS3.out⟩⟩
            · have d2 : decide (x0 < f) = false := decide_eq_false h2
              rw [if_neg h2] at hr2
              have HRS3 := Lib.hid hr2
              clear h2 hr2
              go_wp2_with fail
              go_roundg 1
              case measure => omega
              case rel => exact ⟨2, n, f, by omega, by omega, rfl, rfl, rfl, Lib.hid ⟨HW7.out, HRS3.out⟩⟩
        · have dn : decide (dY < 0) = false := decide_eq_false hn
          have hr2 := HRS2.out
          rw [if_neg hn, if_neg hn] at hr2
          clear HRS2 hn
          unfold maxI minI at hr2
          by_cases h1 : n < x0
          · have d1 : decide (n < x0) = true := decide_eq_true h1
            rw [if_pos h1] at hr2
            clear h1
            by_cases h2 : y0 < f
            · have d2 : decide (y0 < f) = true := decide_eq_true h2
              rw [if_pos h2] at hr2
              have HRS3 := Lib.hid hr2
              clear h2 hr2
              go_wp2_with fail
              go_roundg 1
              case measure => omega
              case rel => exact ⟨2, x0, y0, by omega, by omega, rfl, rfl, rfl, Lib.hid ⟨HW7.out, HRS3.out⟩⟩
            · have d2 : decide (y0 < f) = false := decide_eq_false h2
              rw [if_neg h2] at hr2
              have HRS3 := Lib.hid hr2
              clear h2 hr2
              go_wp2_with fail
              go_roundg 1
              case measure => omega
              case rel => exact ⟨2, x0, f, by omega, by omega, rfl, rfl, rfl, Lib.hid ⟨HW7.out, HRS3.out⟩⟩
          · have d1 : decide (n < x0) = false := decide_eq_false h1
            rw [if_neg h1] at hr2
            clear h1
            by_cases h2 : y0 < f
            · have d2 : decide (y0 < f) = true := decide_eq_true h2
              rw [if_pos h2] at hr2
              have HRS3 := Lib.hid hr2
              clear h2 hr2
              go_wp2_with fail
              go_roundg 1
              case measure => omega
              case rel => exact ⟨2, n, y0, by omega, by omega, rfl, rfl, rfl, Lib.hid ⟨HW7.out, HRS3.out⟩⟩
            · have d2 : decide (y0 < f) = false := decide_eq_false h2
              rw [if_neg h2] at hr2
              have HRS3 := Lib.hid hr2
              clear h2 hr2
              go_wp2_with fail
              go_roundg 1
              case measure => omega
              case rel => exact ⟨2, n, f, by omega, by omega, rfl, rfl, rfl, Lib.hid ⟨HW7.out, HRS3.out⟩⟩
    · have hg : gk = 1 := by omega
      subst hg
      rw [HN1.out] at HRS
      unfold sideF at HRS
      dsimp only at HRS
      by_cases hd : dZ = 0
      · have dd : (dZ == 0) = true := beq_iff_eq.mpr hd
        have HR2 := HRS.out
        rw [if_pos hd] at HR2
        have HRS2 := Lib.hid HR2
        clear HR2 HRS hd
        by_cases h1 : lZ ≤ oZ
        · have d1 : decide (oZ < lZ) = false := decide_eq_false (by omega)
          by_cases h2 : oZ ≤ hZ
          · have d2 : decide (hZ < oZ) = false := decide_eq_false (by omega)
            have hr2 := HRS2.out
            rw [if_pos ⟨h1, h2⟩, Option.bind_some] at hr2
            have HRS3 := Lib.hid hr2
            clear hr2 HRS2 h1 h2
            have cHGd2 := cell_row HGd5.out 2 _ rfl
            go_upto_region 10 with (fail)
            clear cHGd2
            have fHGo2 := fun d os => cell_regrown (cell_row HGo5.out 2 _ rfl) d os
            have fHGl2 := fun d os => cell_regrown (cell_row HGl5.out 2 _ rfl) d os
            have fHGh2 := fun d os => cell_regrown (cell_row HGh5.out 2 _ rfl) d os
            refine wp_region_quiet_below (by kernel_rfl) (by kernel_rfl) ?_
            repeat (go_big_quiet_step (first | fail))
            refine wpQuiet_nil ?_
            first | (rintro _ ⟨⟨dq, osq⟩, rfl⟩) | (rintro ⟨dq, osq⟩)
            have hb := below_regrown wr dq osq
            obtain ⟨y15, hW⟩ : ∃ ww, ww = grow (redrawn wr dq) osq := ⟨_, rfl⟩
            rw [← hW] at hb ⊢
            clear hW
            have HW6 := Lib.hid (HW5.out.trans (hb.mono HW5.out.size))
            have HB6 := Lib.hid (HB5.out.trans (hb.mono HB5.out.size))
            have HGo6 := Lib.hid (vec_step HGo5.out hb)
            have HGd6 := Lib.hid (vec_step HGd5.out hb)
            have HGl6 := Lib.hid (vec_step HGl5.out hb)
            have HGh6 := Lib.hid (vec_step HGh5.out hb)
            clear HB5 HGo5 HGd5 HGl5 HGh5 hb  HW5 fHGo2 fHGl2 fHGh2
            go_wp2_with fail
            go_roundg 0
            case measure => omega
            case rel => exact ⟨3, n, f, by omega, by omega, rfl, rfl, rfl, Lib.hid ⟨HW6.out, HRS3.out⟩⟩
          · have d2 : decide (hZ < oZ) = true := decide_eq_true (by omega)
            have hr2 := HRS2.out
            rw [if_neg (by omega)] at hr2
            have HRS3 := Lib.hid hr2
            clear hr2 HRS2 h1 h2
            have hres : res = none := by have := HRS3.out; rw [← this]; rfl
            subst hres
            have cHGd2 := cell_row HGd5.out 2 _ rfl
            go_upto_region 10 with (fail)
            clear cHGd2
            have fHGo2 := fun d os => cell_regrown (cell_row HGo5.out 2 _ rfl) d os
            have fHGl2 := fun d os => cell_regrown (cell_row HGl5.out 2 _ rfl) d os
            have fHGh2 := fun d os => cell_regrown (cell_row HGh5.out 2 _ rfl) d os
            refine wp_region_quiet_below (by kernel_rfl) (by kernel_rfl) ?_
            repeat (go_big_quiet_step (first | fail))
            refine wpQuiet_nil ?_
            first | (rintro _ ⟨⟨dq, osq⟩, rfl⟩) | (rintro ⟨dq, osq⟩)
            have hb := below_regrown wr dq osq
            obtain ⟨y16, hW⟩ : ∃ ww, ww = grow (redrawn wr dq) osq := ⟨_, rfl⟩
            rw [← hW] at hb ⊢
            clear hW
            have HW6 := Lib.hid (HW5.out.trans (hb.mono HW5.out.size))
            have HB6 := Lib.hid (HB5.out.trans (hb.mono HB5.out.size))
            have HGo6 := Lib.hid (vec_step HGo5.out hb)
            have HGd6 := Lib.hid (vec_step HGd5.out hb)
            have HGl6 := Lib.hid (vec_step HGl5.out hb)
            have HGh6 := Lib.hid (vec_step HGh5.out hb)
            clear HB5 HGo5 HGd5 HGl5 HGh5 hb  HW5 fHGo2 fHGl2 fHGh2
            go_wp2_with fail
            go_ret2
            exact ⟨rfl, HB6.out⟩
        · have d1 : decide (oZ < lZ) = true := decide_eq_true (by omega)
          have hr2 := HRS2.out
          rw [if_neg (by omega)] at hr2
          have HRS3 := Lib.hid hr2
          clear hr2 HRS2 h1
          have hres : res = none := by have := HRS3.out; rw [← this]; rfl
          subst hres
          have cHGd2 := cell_row HGd5.out 2 _ rfl
          go_upto_region 10 with (fail)
          clear cHGd2
          have fHGo2 := fun d os => cell_regrown (cell_row HGo5.out 2 _ rfl) d os
          have fHGl2 := fun d os => cell_regrown (cell_row HGl5.out 2 _ rfl) d os
          have fHGh2 := fun d os => cell_regrown (cell_row HGh5.out 2 _ rfl) d os
          refine wp_region_quiet_below (by kernel_rfl) (by kernel_rfl) ?_
          repeat (go_big_quiet_step (first | fail))
          refine wpQuiet_nil ?_
          first | (rintro _ ⟨⟨dq, osq⟩, rfl⟩) | (rintro ⟨dq, osq⟩)
          have hb := below_regrown wr dq osq
          obtain ⟨y17, hW⟩ : ∃ ww, ww = grow (redrawn wr dq) osq := ⟨_, rfl⟩
          rw [← hW] at hb ⊢
          clear hW
          have HW6 := Lib.hid (HW5.out.trans (hb.mono HW5.out.size))
          have HB6 := Lib.hid (HB5.out.trans (hb.mono HB5.out.size))
          have HGo6 := Lib.hid (vec_step HGo5.out hb)
          have HGd6 := Lib.hid (vec_step HGd5.out hb)
          have HGl6 := Lib.hid (vec_step HGl5.out hb)
          have HGh6 := Lib.hid (vec_step HGh5.out hb)
          clear HB5 HGo5 HGd5 HGl5 HGh5 hb  HW5 fHGo2 fHGl2 fHGh2
          go_wp2_with fail
          go_ret2
          exact ⟨rfl, HB6.out⟩
      · have dd : (dZ == 0) = false := beq_eq_false_iff_ne.mpr hd
        have HR2 := HRS.out
        rw [if_neg hd, Option.bind_some] at HR2
        clear HRS hd
        unfold loF hiF at HR2
        have io := HRK.out.1.2.2
        have id_ := HRK.out.2.2.2
        have il := HBK.out.1.2.2
        have ih := HBK.out.2.2.2
        obtain ⟨a1, ha1⟩ : ∃ zz, zz = subF lZ oZ := ⟨_, rfl⟩
        obtain ⟨a2, ha2⟩ : ∃ zz, zz = subF hZ oZ := ⟨_, rfl⟩
        have ia1 : In a1 := by rw [ha1]; exact in_sub _ _
        have ia2 : In a2 := by rw [ha2]; exact in_sub _ _
        rw [← ha1, ← ha2] at HR2
        obtain ⟨x0, hx0⟩ : ∃ zz, zz = divF a1 dZ := ⟨_, rfl⟩
        obtain ⟨y0, hy0⟩ : ∃ zz, zz = divF a2 dZ := ⟨_, rfl⟩
        rw [← hx0, ← hy0] at HR2
        have C1 : Hid (∀ w, Calls Try.prog 46 #[.int .i64 lZ, .int .i64 oZ] w (fun e w' => e = .returned (.int .i64 a1) ∧ w = w')) := Lib.hid (fun w => by have := rsub_any lZ oZ il.1 il.2 io.1 io.2 w; rw [← ha1] at this; exact this)
        have C2 : Hid (∀ w, Calls Try.prog 46 #[.int .i64 hZ, .int .i64 oZ] w (fun e w' => e = .returned (.int .i64 a2) ∧ w = w')) := Lib.hid (fun w => by have := rsub_any hZ oZ ih.1 ih.2 io.1 io.2 w; rw [← ha2] at this; exact this)
        have C3 : Hid (∀ w, Calls Try.prog 45 #[.int .i64 a1, .int .i64 dZ] w (fun e w' => e = .returned (.int .i64 x0) ∧ w = w')) := Lib.hid (fun w => by have := FixK.rdiv_any a1 dZ ia1.1 ia1.2 id_.1 id_.2 w; rw [← hx0] at this; exact this)
        have C4 : Hid (∀ w, Calls Try.prog 45 #[.int .i64 a2, .int .i64 dZ] w (fun e w' => e = .returned (.int .i64 y0) ∧ w = w')) := Lib.hid (fun w => by have := FixK.rdiv_any a2 dZ ia2.1 ia2.2 id_.1 id_.2 w; rw [← hy0] at this; exact this)
        have HRS2 := Lib.hid HR2
        clear HR2 io id_ il ih ha1 ha2 ia1 ia2 hx0 hy0
        have cHGd2 := cell_row HGd5.out 2 _ rfl
        go_upto_region 12 with (fail)
        clear cHGd2
        have Q1 := Lib.hid (qs (P := Try.prog) (W := wr) C1.out)
        have Q2 := Lib.hid (qs (P := Try.prog) (W := wr) C3.out)
        have fHGo2 := fun d os => cell_regrown (cell_row HGo5.out 2 _ rfl) d os
        have fHGd2 := fun d os => cell_regrown (cell_row HGd5.out 2 _ rfl) d os
        have fHGl2 := fun d os => cell_regrown (cell_row HGl5.out 2 _ rfl) d os
        refine wp_region_quiet_below (by kernel_rfl) (by kernel_rfl) ?_
        repeat (go_big_quiet_step (first | (with_reducible exact Q1.out _ _) | (with_reducible exact Q2.out _ _)))
        refine wpQuiet_nil ?_
        first | (rintro _ ⟨⟨dq, osq⟩, rfl⟩) | (rintro ⟨dq, osq⟩)
        have hb := below_regrown wr dq osq
        obtain ⟨y18, hW⟩ : ∃ ww, ww = grow (redrawn wr dq) osq := ⟨_, rfl⟩
        rw [← hW] at hb ⊢
        clear hW
        have HW6 := Lib.hid (HW5.out.trans (hb.mono HW5.out.size))
        have HB6 := Lib.hid (HB5.out.trans (hb.mono HB5.out.size))
        have HGo6 := Lib.hid (vec_step HGo5.out hb)
        have HGd6 := Lib.hid (vec_step HGd5.out hb)
        have HGl6 := Lib.hid (vec_step HGl5.out hb)
        have HGh6 := Lib.hid (vec_step HGh5.out hb)
        clear HB5 HGo5 HGd5 HGl5 HGh5 hb  HW5 fHGo2 fHGd2 fHGl2
        clear Q1 Q2 C1 C3
        go_upto_region 13 with (fail)
        have Q1 := Lib.hid (qs (P := Try.prog) (W := y18) C2.out)
        have Q2 := Lib.hid (qs (P := Try.prog) (W := y18) C4.out)
        have fHGo2 := fun d os => cell_regrown (cell_row HGo6.out 2 _ rfl) d os
        have fHGd2 := fun d os => cell_regrown (cell_row HGd6.out 2 _ rfl) d os
        have fHGh2 := fun d os => cell_regrown (cell_row HGh6.out 2 _ rfl) d os
        refine wp_region_quiet_below (by kernel_rfl) (by kernel_rfl) ?_
        repeat (go_big_quiet_step (first | (with_reducible exact Q1.out _ _) | (with_reducible exact Q2.out _ _)))
        refine wpQuiet_nil ?_
        first | (rintro _ ⟨⟨dq, osq⟩, rfl⟩) | (rintro ⟨dq, osq⟩)
        have hb := below_regrown y18 dq osq
        obtain ⟨y19, hW⟩ : ∃ ww, ww = grow (redrawn y18 dq) osq := ⟨_, rfl⟩
        rw [← hW] at hb ⊢
        clear hW
        have HW7 := Lib.hid (HW6.out.trans (hb.mono HW6.out.size))
        have HB7 := Lib.hid (HB6.out.trans (hb.mono HB6.out.size))
        have HGo7 := Lib.hid (vec_step HGo6.out hb)
        have HGd7 := Lib.hid (vec_step HGd6.out hb)
        have HGl7 := Lib.hid (vec_step HGl6.out hb)
        have HGh7 := Lib.hid (vec_step HGh6.out hb)
        clear HB6 HGo6 HGd6 HGl6 HGh6 hb  HW6 fHGo2 fHGd2 fHGh2
        clear Q1 Q2 C2 C4
        have cHGd2 := cell_row HGd7.out 2 _ rfl
        by_cases hn : dZ < 0
        · have dn : decide (dZ < 0) = true := decide_eq_true hn
          have hr2 := HRS2.out
          rw [if_pos hn, if_pos hn] at hr2
          clear HRS2 hn
          unfold maxI minI at hr2
          by_cases h1 : n < y0
          · have d1 : decide (n < y0) = true := decide_eq_true h1
            rw [if_pos h1] at hr2
            clear h1
            by_cases h2 : x0 < f
            · have d2 : decide (x0 < f) = true := decide_eq_true h2
              rw [if_pos h2] at hr2
              have HRS3 := Lib.hid hr2
              clear h2 hr2
              go_wp2_with fail
              go_roundg 0
              case measure => omega
              case rel => exact ⟨3, y0, x0, by omega, by omega, rfl, rfl, rfl, Lib.hid ⟨HW7.out, HRS3.out⟩⟩
            · have d2 : decide (x0 < f) = false := decide_eq_false h2
              rw [if_neg h2] at hr2
              have HRS3 := Lib.hid hr2
              clear h2 hr2
              go_wp2_with fail
              go_roundg 0
              case measure => omega
              case rel => exact ⟨3, y0, f, by omega, by omega, rfl, rfl, rfl, Lib.hid ⟨HW7.out, HRS3.out⟩⟩
          · have d1 : decide (n < y0) = false := decide_eq_false h1
            rw [if_neg h1] at hr2
            clear h1
            by_cases h2 : x0 < f
            · have d2 : decide (x0 < f) = true := decide_eq_true h2
              rw [if_pos h2] at hr2
              have HRS3 := Lib.hid hr2
              clear h2 hr2
              go_wp2_with fail
              go_roundg 0
              case measure => omega
              case rel => exact ⟨3, n, x0, by omega, by omega, rfl, rfl, rfl, Lib.hid ⟨HW7.out, HRS3.out⟩⟩
            · have d2 : decide (x0 < f) = false := decide_eq_false h2
              rw [if_neg h2] at hr2
              have HRS3 := Lib.hid hr2
              clear h2 hr2
              go_wp2_with fail
              go_roundg 0
              case measure => omega
              case rel => exact ⟨3, n, f, by omega, by omega, rfl, rfl, rfl, Lib.hid ⟨HW7.out, HRS3.out⟩⟩
        · have dn : decide (dZ < 0) = false := decide_eq_false hn
          have hr2 := HRS2.out
          rw [if_neg hn, if_neg hn] at hr2
          clear HRS2 hn
          unfold maxI minI at hr2
          by_cases h1 : n < x0
          · have d1 : decide (n < x0) = true := decide_eq_true h1
            rw [if_pos h1] at hr2
            clear h1
            by_cases h2 : y0 < f
            · have d2 : decide (y0 < f) = true := decide_eq_true h2
              rw [if_pos h2] at hr2
              have HRS3 := Lib.hid hr2
              clear h2 hr2
              go_wp2_with fail
              go_roundg 0
              case measure => omega
              case rel => exact ⟨3, x0, y0, by omega, by omega, rfl, rfl, rfl, Lib.hid ⟨HW7.out, HRS3.out⟩⟩
            · have d2 : decide (y0 < f) = false := decide_eq_false h2
              rw [if_neg h2] at hr2
              have HRS3 := Lib.hid hr2
              clear h2 hr2
              go_wp2_with fail
              go_roundg 0
              case measure => omega
              case rel => exact ⟨3, x0, f, by omega, by omega, rfl, rfl, rfl, Lib.hid ⟨HW7.out, HRS3.out⟩⟩
          · have d1 : decide (n < x0) = false := decide_eq_false h1
            rw [if_neg h1] at hr2
            clear h1
            by_cases h2 : y0 < f
            · have d2 : decide (y0 < f) = true := decide_eq_true h2
              rw [if_pos h2] at hr2
              have HRS3 := Lib.hid hr2
              clear h2 hr2
              go_wp2_with fail
              go_roundg 0
              case measure => omega
              case rel => exact ⟨3, n, y0, by omega, by omega, rfl, rfl, rfl, Lib.hid ⟨HW7.out, HRS3.out⟩⟩
            · have d2 : decide (y0 < f) = false := decide_eq_false h2
              rw [if_neg h2] at hr2
              have HRS3 := Lib.hid hr2
              clear h2 hr2
              go_wp2_with fail
              go_roundg 0
              case measure => omega
              case rel => exact ⟨3, n, f, by omega, by omega, rfl, rfl, rfl, Lib.hid ⟨HW7.out, HRS3.out⟩⟩
    · have hg : gk = 0 := by omega
      subst hg
      rw [HN0.out] at HRS
      by_cases hh : n ≤ f
      · have hr2 := HRS.out
        rw [if_pos hh] at hr2
        subst hr2
        have d2 : decide (f < n) = false := decide_eq_false (by omega)
        clear HRS hh
        go_wp2_with fail
        go_ret2
        exact ⟨rfl, HB5.out⟩
      · have hr2 := HRS.out
        rw [if_neg hh] at hr2
        subst hr2
        have d2 : decide (f < n) = true := decide_eq_true (by omega)
        clear HRS hh
        go_wp2_with fail
        go_ret2
        exact ⟨rfl, HB5.out⟩

end Go.Proofs.Ytdmmbhcaejojeaa.HitR
