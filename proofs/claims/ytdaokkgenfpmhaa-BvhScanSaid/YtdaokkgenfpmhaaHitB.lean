/- The walks of hit.Ball and ref13 Ball. -/
import Derived.Test.YtdaokkgenfpmhaaHitT
import Derived.OwnWalk
set_option linter.unusedVariables false
set_option linter.unusedSimpArgs false
namespace Go.Proofs.Ytdaokkgenfpmhaa.HitB
open Go.RowKit Go.Sort FixM Base Num FixW FixV FixU FixS FixO FixN FixK Qb Qt Qa Qf VecW VecV VecU VecR LightQ LightC MeshM MeshA MeshD MeshP HitM HitT

set_option maxRecDepth 100000 in
set_option maxHeartbeats 16000000 in
theorem ball_any (r : Ry) (b : B4) (hr : r.ok) (hbc : b.c.ok) (hbr : In b.r) (w : World) : Calls Try.prog 45 #[rayV r, .agg #[.int .i64 b.c.x, .int .i64 b.c.y, .int .i64 b.c.z, .int .i64 b.r]] w (VTo (ballR (ballH r b)) w) := by
  obtain ⟨g, hg⟩ : ∃ zz, zz = map2 subF r.o b.c := ⟨_, rfl⟩
  obtain ⟨A, hA⟩ : ∃ zz, zz = dotF r.d r.d := ⟨_, rfl⟩
  obtain ⟨h, hh_⟩ : ∃ zz, zz = dotF g r.d := ⟨_, rfl⟩
  obtain ⟨gg, hgg⟩ : ∃ zz, zz = dotF g g := ⟨_, rfl⟩
  obtain ⟨rr, hrr⟩ : ∃ zz, zz = mulF b.r b.r := ⟨_, rfl⟩
  obtain ⟨C, hC⟩ : ∃ zz, zz = subF gg rr := ⟨_, rfl⟩
  obtain ⟨hh, hhh⟩ : ∃ zz, zz = mulF h h := ⟨_, rfl⟩
  obtain ⟨ac, hac⟩ : ∃ zz, zz = mulF A C := ⟨_, rfl⟩
  obtain ⟨W, hW⟩ : ∃ zz, zz = subF hh ac := ⟨_, rfl⟩
  obtain ⟨rt, hrt⟩ : ∃ zz, zz = sqrtF W := ⟨_, rfl⟩
  obtain ⟨nh, hnh⟩ : ∃ zz, zz = negF h := ⟨_, rfl⟩
  obtain ⟨x1, hx1⟩ : ∃ zz, zz = subF nh rt := ⟨_, rfl⟩
  obtain ⟨X, hX⟩ : ∃ zz, zz = divF x1 A := ⟨_, rfl⟩
  obtain ⟨y1, hy1⟩ : ∃ zz, zz = addF nh rt := ⟨_, rfl⟩
  obtain ⟨Y, hY⟩ : ∃ zz, zz = divF y1 A := ⟨_, rfl⟩
  have HE : Hid (ballH r b = if A = 0 ∨ W < 0 then none else some (X, Y)) := Lib.hid (by
    have e1 : ballA r = A := hA.symm
    have e2 : ballHh r b = h := by unfold ballHh; rw [← hg, ← hh_]
    have e3 : ballC r b = C := by unfold ballC; rw [← hg, ← hgg, ← hrr, ← hC]
    have e4 : ballW r b = W := by unfold ballW; rw [e1, e2, e3, ← hhh, ← hac, ← hW]
    have e5 : ballX r b = X := by unfold ballX; rw [e1, e2, e4, ← hnh, ← hrt, ← hx1, ← hX]
    have e6 : ballY r b = Y := by unfold ballY; rw [e1, e2, e4, ← hnh, ← hrt, ← hy1, ← hY]
    unfold ballH
    rw [e1, e4, e5, e6])
  generalize ballH r b = res at HE ⊢
  have og : g.ok := by rw [hg]; exact ok_map2sub _ _
  have iA : In A := by rw [hA]; exact in_dot _ _
  have ih : In h := by rw [hh_]; exact in_dot _ _
  have igg : In gg := by rw [hgg]; exact in_dot _ _
  have irr : In rr := by rw [hrr]; exact in_mul _ _
  have iC : In C := by rw [hC]; exact in_sub _ _
  have ihh : In hh := by rw [hhh]; exact in_mul _ _
  have iac : In ac := by rw [hac]; exact in_mul _ _
  have iW : In W := by rw [hW]; exact in_sub _ _
  have irt : In rt := by rw [hrt]; exact in_sqrt iW
  have inh : In nh := by rw [hnh]; exact in_neg _
  have ix1 : In x1 := by rw [hx1]; exact in_sub _ _
  have iy1 : In y1 := by rw [hy1]; exact in_add _ _
  obtain ⟨⟨oX, oY, oZ⟩, ⟨dX, dY, dZ⟩⟩ := r
  obtain ⟨⟨cX, cY, cZ⟩, br⟩ := b
  dsimp only at *
  have CG : Hid (∀ w, Calls Try.prog 46 #[vecV ⟨oX, oY, oZ⟩, vecV ⟨cX, cY, cZ⟩] w (VTo (vecV g) w)) := Lib.hid (fun w => by have := vsub_any ⟨oX, oY, oZ⟩ ⟨cX, cY, cZ⟩ hr.1 hbc w; rw [← hg] at this; exact this)
  have CA : Hid (∀ w, Calls Try.prog 48 #[vecV ⟨dX, dY, dZ⟩, vecV ⟨dX, dY, dZ⟩] w (VTo (.int .i64 A) w)) := Lib.hid (fun w => by have := vdot_any ⟨dX, dY, dZ⟩ ⟨dX, dY, dZ⟩ hr.2 hr.2 w; rw [← hA] at this; exact this)
  have CH : Hid (∀ w, Calls Try.prog 48 #[vecV g, vecV ⟨dX, dY, dZ⟩] w (VTo (.int .i64 h) w)) := Lib.hid (fun w => by have := vdot_any g ⟨dX, dY, dZ⟩ og hr.2 w; rw [← hh_] at this; exact this)
  have CGG : Hid (∀ w, Calls Try.prog 48 #[vecV g, vecV g] w (VTo (.int .i64 gg) w)) := Lib.hid (fun w => by have := vdot_any g g og og w; rw [← hgg] at this; exact this)
  have CRR : Hid (∀ w, Calls Try.prog 60 #[.int .i64 br, .int .i64 br] w (VTo (.int .i64 rr) w)) := Lib.hid (fun w => by have := same_below (mul_any br br hbr.1 hbr.2 hbr.1 hbr.2 w); rw [← hrr] at this; exact this)
  have CC : Hid (∀ w, Calls Try.prog 34 #[.int .i64 gg, .int .i64 rr] w (VTo (.int .i64 C) w)) := Lib.hid (fun w => by have := same_below (sub_any gg rr igg.1 igg.2 irr.1 irr.2 w); rw [← hC] at this; exact this)
  have CHH : Hid (∀ w, Calls Try.prog 60 #[.int .i64 h, .int .i64 h] w (VTo (.int .i64 hh) w)) := Lib.hid (fun w => by have := same_below (mul_any h h ih.1 ih.2 ih.1 ih.2 w); rw [← hhh] at this; exact this)
  have CAC : Hid (∀ w, Calls Try.prog 60 #[.int .i64 A, .int .i64 C] w (VTo (.int .i64 ac) w)) := Lib.hid (fun w => by have := same_below (mul_any A C iA.1 iA.2 iC.1 iC.2 w); rw [← hac] at this; exact this)
  have CW : Hid (∀ w, Calls Try.prog 34 #[.int .i64 hh, .int .i64 ac] w (VTo (.int .i64 W) w)) := Lib.hid (fun w => by have := same_below (sub_any hh ac ihh.1 ihh.2 iac.1 iac.2 w); rw [← hW] at this; exact this)
  have CRT : Hid (∀ w, Calls Try.prog 61 #[.int .i64 W] w (VTo (.int .i64 rt) w)) := Lib.hid (fun w => by have := same_below (sqrt_any W iW.1 iW.2 w); rw [← hrt] at this; exact this)
  have CNH : Hid (∀ w, Calls Try.prog 62 #[.int .i64 h] w (VTo (.int .i64 nh) w)) := Lib.hid (fun w => by have := same_below (neg_any h ih.1 ih.2 w); rw [← hnh] at this; exact this)
  have CX1 : Hid (∀ w, Calls Try.prog 34 #[.int .i64 nh, .int .i64 rt] w (VTo (.int .i64 x1) w)) := Lib.hid (fun w => by have := same_below (sub_any nh rt inh.1 inh.2 irt.1 irt.2 w); rw [← hx1] at this; exact this)
  have CX : Hid (∀ w, Calls Try.prog 33 #[.int .i64 x1, .int .i64 A] w (VTo (.int .i64 X) w)) := Lib.hid (fun w => by have := drawn_below (div_any x1 A ix1.1 ix1.2 iA.1 iA.2 w); rw [← hX] at this; exact this)
  have CY1 : Hid (∀ w, Calls Try.prog 38 #[.int .i64 nh, .int .i64 rt] w (VTo (.int .i64 y1) w)) := Lib.hid (fun w => by have := same_below (add_any nh rt inh.1 inh.2 irt.1 irt.2 w); rw [← hy1] at this; exact this)
  have CY : Hid (∀ w, Calls Try.prog 33 #[.int .i64 y1, .int .i64 A] w (VTo (.int .i64 Y) w)) := Lib.hid (fun w => by have := drawn_below (div_any y1 A iy1.1 iy1.2 iA.1 iA.2 w); rw [← hY] at this; exact this)
  clear hg hA hh_ hgg hrr hC hhh hac hW hrt hnh hx1 hX hy1 hY og iA ih igg irr iC ihh iac iW irt inh ix1 iy1 hr hbc hbr
  obtain ⟨gX, gY, gZ⟩ := g
  dsimp only [vecV, rayV] at *
  obtain ⟨W0, hW0⟩ : ∃ W, W = (w.alloc (.cells #[.int .i64 oX, .int .i64 oY, .int .i64 oZ, .int .i64 dX, .int .i64 dY, .int .i64 dZ] 25)).alloc (.cells #[.int .i64 cX, .int .i64 cY, .int .i64 cZ, .int .i64 br] 71) := ⟨_, rfl⟩
  have hR : W0.heap[w.heap.size]? = some (.cells #[.int .i64 oX, .int .i64 oY, .int .i64 oZ, .int .i64 dX, .int .i64 dY, .int .i64 dZ] 25) := by rw [hW0]; exact alloc2_0 _ _ _
  have hBa : W0.heap[w.heap.size + 1]? = some (.cells #[.int .i64 cX, .int .i64 cY, .int .i64 cZ, .int .i64 br] 71) := by rw [hW0]; exact alloc2_1 _ _ _
  have hB : Below w.heap.size w W0 := by rw [hW0]; exact alloc2_below _ _ _
  have HR0 := Lib.hid hR
  have HA0 := Lib.hid hBa
  have HB0 := Lib.hid hB
  have HWW := Lib.hid hW0
  clear hR hBa hB hW0
  go_enter Try.func45, Try.ntmps45
  go_upto_region 1 with (fail)
  rw [← HWW.out]
  clear HWW
  have cHR0 := cell_row HR0.out 0 _ rfl
  have cHR1 := cell_row HR0.out 1 _ rfl
  have cHR2 := cell_row HR0.out 2 _ rfl
  have cHA0 := cell_row HA0.out 0 _ rfl
  have cHA1 := cell_row HA0.out 1 _ rfl
  have cHA2 := cell_row HA0.out 2 _ rfl
  go_wp2_with fail
  refine (CG.out _).mono ?_
  rintro e y1 ⟨rfl, hb⟩
  have HR1 := Lib.hid (vec_step HR0.out hb)
  have HA1 := Lib.hid (vec_step HA0.out hb)
  have HB1 := Lib.hid (HB0.out.trans (hb.mono HB0.out.size))
  clear HR0 HA0 HB0 hb cHR0 cHR1 cHR2 cHA0 cHA1 cHA2 CG
  go_upto_region 2 with (fail)
  have hx := ext_alloc y1 (.cells #[.int .i64 gX, .int .i64 gY, .int .i64 gZ] 23)
  have hn := heap_alloc_new y1 (.cells #[.int .i64 gX, .int .i64 gY, .int .i64 gZ] 23)
  obtain ⟨y2, hW⟩ : ∃ W, W = y1.alloc (.cells #[.int .i64 gX, .int .i64 gY, .int .i64 gZ] 23) := ⟨_, rfl⟩
  rw [← hW] at hx hn ⊢
  clear hW
  have HR2 := Lib.hid (vec_step HR1.out hx)
  have HA2 := Lib.hid (vec_step HA1.out hx)
  have HB2 := Lib.hid (HB1.out.trans (hx.mono HB1.out.size))
  clear HR1 HA1 HB1 hx  
  have HG2 := Lib.hid (hn)
  clear hn
  generalize y1.heap.size = gHG at HG2 ⊢
  have cHR3 := cell_row HR2.out 3 _ rfl
  have cHR4 := cell_row HR2.out 4 _ rfl
  have cHR5 := cell_row HR2.out 5 _ rfl
  go_wp2_with fail
  refine (CA.out _).mono ?_
  rintro e y3 ⟨rfl, hb⟩
  have HR3 := Lib.hid (vec_step HR2.out hb)
  have HA3 := Lib.hid (vec_step HA2.out hb)
  have HB3 := Lib.hid (HB2.out.trans (hb.mono HB2.out.size))
  have HG3 := Lib.hid (vec_step HG2.out hb)
  clear HR2 HA2 HB2 HG2 hb cHR3 cHR4 cHR5 CA
  by_cases hA0 : A = 0
  · have dA : decide (A = 0) = true := decide_eq_true hA0
    have dA2 : (A == 0) = true := by simp [hA0]
    have hres : res = none := by rw [HE.out, if_pos (.inl hA0)]
    subst hres
    go_wp2_with fail
    go_ret3
    exact ⟨rfl, HB3.out⟩
  · have dA : decide (A = 0) = false := decide_eq_false hA0
    have dA2 : (A == 0) = false := by simp [hA0]
    have cHG0 := cell_row HG3.out 0 _ rfl
    have cHG1 := cell_row HG3.out 1 _ rfl
    have cHG2 := cell_row HG3.out 2 _ rfl
    have cHR3 := cell_row HR3.out 3 _ rfl
    have cHR4 := cell_row HR3.out 4 _ rfl
    have cHR5 := cell_row HR3.out 5 _ rfl
    go_wp2_with fail
    refine (CH.out _).mono ?_
    rintro e y4 ⟨rfl, hb⟩
    have HR4 := Lib.hid (vec_step HR3.out hb)
    have HA4 := Lib.hid (vec_step HA3.out hb)
    have HB4 := Lib.hid (HB3.out.trans (hb.mono HB3.out.size))
    have HG4 := Lib.hid (vec_step HG3.out hb)
    clear HR3 HA3 HB3 HG3 hb cHG0 cHG1 cHG2 cHR3 cHR4 cHR5 CH
    go_upto_region 6 with (fail)
    have Q1 := Lib.hid (qb (P := Try.prog) (W := y4) (fun w2 hb => CGG.out w2))
    have Q2 := Lib.hid (qb (P := Try.prog) (W := y4) (fun w2 hb => CRR.out w2))
    have Q3 := Lib.hid (qb (P := Try.prog) (W := y4) (fun w2 hb => CC.out w2))
    have fHG0 := fun d os => cell_regrown (cell_row HG4.out 0 _ rfl) d os
    have fHG1 := fun d os => cell_regrown (cell_row HG4.out 1 _ rfl) d os
    have fHG2 := fun d os => cell_regrown (cell_row HG4.out 2 _ rfl) d os
    have fHA3 := fun d os => cell_regrown (cell_row HA4.out 3 _ rfl) d os
    refine wp_region_quiet_below (by kernel_rfl) (by kernel_rfl) ?_
    repeat (go_big_quiet_step (first | (with_reducible exact Q1.out _ _) | (with_reducible exact Q2.out _ _) | (with_reducible exact Q3.out _ _)))
    refine wpQuiet_nil ?_
    first | (rintro _ ⟨⟨dq, osq⟩, rfl⟩) | (rintro ⟨dq, osq⟩)
    have hb := below_regrown y4 dq osq
    obtain ⟨y5, hW⟩ : ∃ W, W = grow (redrawn y4 dq) osq := ⟨_, rfl⟩
    rw [← hW] at hb ⊢
    clear hW
    have HR5 := Lib.hid (vec_step HR4.out hb)
    have HA5 := Lib.hid (vec_step HA4.out hb)
    have HB5 := Lib.hid (HB4.out.trans (hb.mono HB4.out.size))
    have HG5 := Lib.hid (vec_step HG4.out hb)
    clear HR4 HA4 HB4 HG4 hb  fHG0 fHG1 fHG2 fHA3
    clear Q1 Q2 Q3 CGG CRR CC
    go_wp2_with fail
    refine (CHH.out _).mono ?_
    rintro e y6 ⟨rfl, hb⟩
    have HR6 := Lib.hid (vec_step HR5.out hb)
    have HA6 := Lib.hid (vec_step HA5.out hb)
    have HB6 := Lib.hid (HB5.out.trans (hb.mono HB5.out.size))
    have HG6 := Lib.hid (vec_step HG5.out hb)
    clear HR5 HA5 HB5 HG5 hb  CHH
    go_wp2_with fail
    refine (CAC.out _).mono ?_
    rintro e y7 ⟨rfl, hb⟩
    have HR7 := Lib.hid (vec_step HR6.out hb)
    have HA7 := Lib.hid (vec_step HA6.out hb)
    have HB7 := Lib.hid (HB6.out.trans (hb.mono HB6.out.size))
    have HG7 := Lib.hid (vec_step HG6.out hb)
    clear HR6 HA6 HB6 HG6 hb  CAC
    go_wp2_with fail
    refine (CW.out _).mono ?_
    rintro e y8 ⟨rfl, hb⟩
    have HR8 := Lib.hid (vec_step HR7.out hb)
    have HA8 := Lib.hid (vec_step HA7.out hb)
    have HB8 := Lib.hid (HB7.out.trans (hb.mono HB7.out.size))
    have HG8 := Lib.hid (vec_step HG7.out hb)
    clear HR7 HA7 HB7 HG7 hb  CW
    by_cases hW0 : W < 0
    · have dW : decide (W < 0) = true := decide_eq_true hW0
      have hres : res = none := by rw [HE.out, if_pos (.inr hW0)]
      subst hres
      go_wp2_with fail
      go_ret3
      exact ⟨rfl, HB8.out⟩
    · have dW : decide (W < 0) = false := decide_eq_false hW0
      have hres : res = some (X, Y) := by rw [HE.out, if_neg (by omega)]
      go_wp2_with fail
      refine (CRT.out _).mono ?_
      rintro e y9 ⟨rfl, hb⟩
      have HR9 := Lib.hid (vec_step HR8.out hb)
      have HA9 := Lib.hid (vec_step HA8.out hb)
      have HB9 := Lib.hid (HB8.out.trans (hb.mono HB8.out.size))
      have HG9 := Lib.hid (vec_step HG8.out hb)
      clear HR8 HA8 HB8 HG8 hb  CRT
      go_wp2_with fail
      refine (CNH.out _).mono ?_
      rintro e y10 ⟨rfl, hb⟩
      have HR10 := Lib.hid (vec_step HR9.out hb)
      have HA10 := Lib.hid (vec_step HA9.out hb)
      have HB10 := Lib.hid (HB9.out.trans (hb.mono HB9.out.size))
      have HG10 := Lib.hid (vec_step HG9.out hb)
      clear HR9 HA9 HB9 HG9 hb  
      go_wp2_with fail
      refine (CX1.out _).mono ?_
      rintro e y11 ⟨rfl, hb⟩
      have HR11 := Lib.hid (vec_step HR10.out hb)
      have HA11 := Lib.hid (vec_step HA10.out hb)
      have HB11 := Lib.hid (HB10.out.trans (hb.mono HB10.out.size))
      have HG11 := Lib.hid (vec_step HG10.out hb)
      clear HR10 HA10 HB10 HG10 hb  CX1
      go_wp2_with fail
      refine (CX.out _).mono ?_
      rintro e y12 ⟨rfl, hb⟩
      have HR12 := Lib.hid (vec_step HR11.out hb)
      have HA12 := Lib.hid (vec_step HA11.out hb)
      have HB12 := Lib.hid (HB11.out.trans (hb.mono HB11.out.size))
      have HG12 := Lib.hid (vec_step HG11.out hb)
      clear HR11 HA11 HB11 HG11 hb  CX
      go_wp2_with fail
      refine (CNH.out _).mono ?_
      rintro e y13 ⟨rfl, hb⟩
      have HR13 := Lib.hid (vec_step HR12.out hb)
      have HA13 := Lib.hid (vec_step HA12.out hb)
      have HB13 := Lib.hid (HB12.out.trans (hb.mono HB12.out.size))
      have HG13 := Lib.hid (vec_step HG12.out hb)
      clear HR12 HA12 HB12 HG12 hb  CNH
      go_wp2_with fail
      refine (CY1.out _).mono ?_
      rintro e y14 ⟨rfl, hb⟩
      have HR14 := Lib.hid (vec_step HR13.out hb)
      have HA14 := Lib.hid (vec_step HA13.out hb)
      have HB14 := Lib.hid (HB13.out.trans (hb.mono HB13.out.size))
      have HG14 := Lib.hid (vec_step HG13.out hb)
      clear HR13 HA13 HB13 HG13 hb  CY1
      go_wp2_with fail
      refine (CY.out _).mono ?_
      rintro e y15 ⟨rfl, hb⟩
      have HR15 := Lib.hid (vec_step HR14.out hb)
      have HA15 := Lib.hid (vec_step HA14.out hb)
      have HB15 := Lib.hid (HB14.out.trans (hb.mono HB14.out.size))
      have HG15 := Lib.hid (vec_step HG14.out hb)
      clear HR14 HA14 HB14 HG14 hb  CY
      subst hres
      go_wp2_with fail
      go_ret3
      exact ⟨rfl, HB15.out⟩

end Go.Proofs.Ytdaokkgenfpmhaa.HitB
