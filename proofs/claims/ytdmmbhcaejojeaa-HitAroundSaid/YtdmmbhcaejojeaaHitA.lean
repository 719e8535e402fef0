/- The walks of around and HitAround. -/
import Derived.Test.YtdmmbhcaejojeaaHitO
import Derived.Test.YtdmmbhcaejojeaaHitZ
set_option linter.unusedVariables false
set_option linter.unusedSimpArgs false
namespace Go.Proofs.Ytdmmbhcaejojeaa.HitA
open Go.RowKit Go.Sort FixM Base Num FixW Qb Qt Qa Qf Qg Qr Qs Qz VecW VecV VecU LightQ LightC MeshM Rec MeshA MeshB MeshC MeshD MeshE MeshP MeshEq HitM HitT HitB HitX HitN HitC HitS HitV HitW HitY HitZ HitO

set_option maxRecDepth 100000 in
theorem around_any (b : Bx) (p : V3) (w : World) : Calls Try.prog 25 #[boxV b, vecV p] w (VTo (boxV (aroundF b p)) w) := by
  obtain ⟨⟨lx, ly, lz⟩, ⟨hx, hy, hz⟩⟩ := b
  obtain ⟨px, py, pz⟩ := p
  unfold boxV vecV aroundF
  dsimp only
  obtain ⟨m0, e0⟩ : ∃ m, m = minI lx px := ⟨_, rfl⟩
  rw [← e0]
  have M0 := min2_at e0
  clear e0
  obtain ⟨m1, e1⟩ : ∃ m, m = minI ly py := ⟨_, rfl⟩
  rw [← e1]
  have M1 := min2_at e1
  clear e1
  obtain ⟨m2, e2⟩ : ∃ m, m = minI lz pz := ⟨_, rfl⟩
  rw [← e2]
  have M2 := min2_at e2
  clear e2
  obtain ⟨m3, e3⟩ : ∃ m, m = maxI hx px := ⟨_, rfl⟩
  rw [← e3]
  have M3 := max2_at e3
  clear e3
  obtain ⟨m4, e4⟩ : ∃ m, m = maxI hy py := ⟨_, rfl⟩
  rw [← e4]
  have M4 := max2_at e4
  clear e4
  obtain ⟨m5, e5⟩ : ∃ m, m = maxI hz pz := ⟨_, rfl⟩
  rw [← e5]
  have M5 := max2_at e5
  clear e5
  have hal := al3h w (.cells #[.int .i64 lx, .int .i64 ly, .int .i64 lz, .int .i64 hx, .int .i64 hy, .int .i64 hz] 29) (.cells #[.int .i64 px, .int .i64 py, .int .i64 pz] 23) (.cells #[.int .i64 0, .int .i64 0, .int .i64 0, .int .i64 0, .int .i64 0, .int .i64 0] 29)
  go_enter Try.func25, Try.ntmps25
  go_upto_region 1 with (fail)
  obtain ⟨W, hW⟩ : ∃ ww, ww = ((w.alloc (.cells #[.int .i64 lx, .int .i64 ly, .int .i64 lz, .int .i64 hx, .int .i64 hy, .int .i64 hz] 29)).alloc (.cells #[.int .i64 px, .int .i64 py, .int .i64 pz] 23)).alloc (.cells #[.int .i64 0, .int .i64 0, .int .i64 0, .int .i64 0, .int .i64 0, .int .i64 0] 29) := ⟨_, rfl⟩
  rw [← hW] at hal ⊢
  clear hW
  obtain ⟨h0, h1, h2, hb⟩ := hal
  have HB0 := Lib.hid hb
  have HX0 := Lib.hid h0
  have HP0 := Lib.hid h1
  have HZ0 := Lib.hid h2
  clear hb h0 h1 h2
  have cHX0 := cell_row HX0.out 0 _ rfl
  have cHX1 := cell_row HX0.out 1 _ rfl
  have cHX2 := cell_row HX0.out 2 _ rfl
  have cHX3 := cell_row HX0.out 3 _ rfl
  have cHX4 := cell_row HX0.out 4 _ rfl
  have cHX5 := cell_row HX0.out 5 _ rfl
  have cHP0 := cell_row HP0.out 0 _ rfl
  have cHP1 := cell_row HP0.out 1 _ rfl
  have cHP2 := cell_row HP0.out 2 _ rfl
  go_wp2_with (first | (with_reducible refine store_box rfl (.tmp 4) (.tmp 43) rfl rfl (w.heap.size + 1 + 1) m0 m1 m2 m3 m4 m5 rfl rfl _ HZ0.out rfl ?_))
  refine bodyPost_ret (results_cell_row rfl _ _ (w.heap.size + 1 + 1) 29 _ _ _ rfl (setRow_heap _ _ _ _ _ _ HZ0.out) Try.underlying29 rfl box_size) rfl ?_
  exact ⟨rfl, below_setRow HB0.out (by omega) _⟩

/-- what the law looks at -/
theorem box_told (r : Ry) (b : Bx) (p : V3) : (((boxH r b).isSome = true → (boxH r (aroundF b p)).isSome = true ∧ decide ((boxH r (aroundF b p)).getD 0 > (boxH r b).getD 0) = false) ∧ decide ((boxH r b).getD 0 < 0) = false) ∧ decide ((boxH r (aroundF b p)).getD 0 < 0) = false := by
  refine ⟨⟨fun h => ?_, ?_⟩, ?_⟩
  · cases e : boxH r b with
    | none => rw [e] at h; cases h
    | some t =>
      obtain ⟨u, e2, hu⟩ := box_mono (around_le b p) e
      rw [e2]
      exact ⟨rfl, decide_eq_false (by simp only [Option.getD_some]; omega)⟩
  · cases e : boxH r b with
    | none => rfl
    | some t => have := box_least e; exact decide_eq_false (by simp only [Option.getD_some]; omega)
  · cases e : boxH r (aroundF b p) with
    | none => rfl
    | some t => have := box_least e; exact decide_eq_false (by simp only [Option.getD_some]; omega)
set_option maxRecDepth 100000 in
theorem hitAround_any (r : Ry) (b : Bx) (p : V3) (hr : r.ok) (hb : HitM.Bx.ok b) (hp : p.ok) (w : World) : Calls Try.prog 6 #[rayV r, boxV b, vecV p] w (AwTo w) := by
  have CA := Lib.hid (around_any b p)
  have CB := Lib.hid (hbox_any r b hr hb)
  have CC := Lib.hid (hbox_any r (aroundF b p) hr (around_ok hb hp))
  have hT := box_told r b p
  unfold boxR at CB CC
  generalize boxH r b = rb at hT CB
  generalize boxH r (aroundF b p) = ra at hT CC
  clear hr hb hp
  generalize aroundF b p = ab at CA CC
  obtain ⟨⟨ox, oy, oz⟩, ⟨dx, dy, dz⟩⟩ := r
  obtain ⟨⟨lx, ly, lz⟩, ⟨hx, hy, hz⟩⟩ := b
  obtain ⟨px, py, pz⟩ := p
  obtain ⟨⟨ax, ay, az⟩, ⟨bx, by_, bz⟩⟩ := ab
  unfold boxV vecV rayV at *
  dsimp only at CA CB CC
  generalize rb.getD 0 = t at hT CB
  generalize ra.getD 0 = u at hT CC
  generalize rb.isSome = okb at hT CB
  generalize ra.isSome = isb at hT CC
  obtain ⟨⟨h1, dt⟩, du⟩ := hT
  have hal := al3h w (.cells #[.int .i64 ox, .int .i64 oy, .int .i64 oz, .int .i64 dx, .int .i64 dy, .int .i64 dz] 25) (.cells #[.int .i64 lx, .int .i64 ly, .int .i64 lz, .int .i64 hx, .int .i64 hy, .int .i64 hz] 29) (.cells #[.int .i64 px, .int .i64 py, .int .i64 pz] 23)
  go_enter Try.func6, Try.ntmps6
  go_upto_region 1 with (fail)
  obtain ⟨W, hW⟩ : ∃ ww, ww = ((w.alloc (.cells #[.int .i64 ox, .int .i64 oy, .int .i64 oz, .int .i64 dx, .int .i64 dy, .int .i64 dz] 25)).alloc (.cells #[.int .i64 lx, .int .i64 ly, .int .i64 lz, .int .i64 hx, .int .i64 hy, .int .i64 hz] 29)).alloc (.cells #[.int .i64 px, .int .i64 py, .int .i64 pz] 23) := ⟨_, rfl⟩
  rw [← hW] at hal ⊢
  clear hW
  obtain ⟨h0, h11, h2, hb⟩ := hal
  have HB0 := Lib.hid hb
  have HR0 := Lib.hid h0
  have HX0 := Lib.hid h11
  have HP0 := Lib.hid h2
  clear hb h0 h11 h2
  have HH := Lib.hid h1
  clear h1
  have cHR0 := cell_row HR0.out 0 _ rfl
  have cHR1 := cell_row HR0.out 1 _ rfl
  have cHR2 := cell_row HR0.out 2 _ rfl
  have cHR3 := cell_row HR0.out 3 _ rfl
  have cHR4 := cell_row HR0.out 4 _ rfl
  have cHR5 := cell_row HR0.out 5 _ rfl
  have cHX0 := cell_row HX0.out 0 _ rfl
  have cHX1 := cell_row HX0.out 1 _ rfl
  have cHX2 := cell_row HX0.out 2 _ rfl
  have cHX3 := cell_row HX0.out 3 _ rfl
  have cHX4 := cell_row HX0.out 4 _ rfl
  have cHX5 := cell_row HX0.out 5 _ rfl
  go_wp2_with fail
  refine (CB.out _).mono ?_
  rintro e y1 ⟨rfl, hb⟩
  have HB1 := Lib.hid (HB0.out.trans (hb.mono HB0.out.size))
  have HR1 := Lib.hid (vec_step HR0.out hb)
  have HX1 := Lib.hid (vec_step HX0.out hb)
  have HP1 := Lib.hid (vec_step HP0.out hb)
  clear HB0 HR0 HX0 HP0 hb cHR0 cHR1 cHR2 cHR3 cHR4 cHR5 cHX0 cHX1 cHX2 cHX3 cHX4 cHX5 
  go_upto_region 2 with (fail)
  have Q1 := Lib.hid (qb (P := Try.prog) (W := y1) (v := .agg #[.int .i64 ax, .int .i64 ay, .int .i64 az, .int .i64 bx, .int .i64 by_, .int .i64 bz]) (fun w2 hb => CA.out w2))
  have Q2 := Lib.hid (qb (P := Try.prog) (W := y1) (v := .tuple #[.int .i64 u, .bool isb]) (fun w2 hb => CC.out w2))
  have fHR0 := fun d os => cell_regrown (cell_row HR1.out 0 _ rfl) d os
  have fHR1 := fun d os => cell_regrown (cell_row HR1.out 1 _ rfl) d os
  have fHR2 := fun d os => cell_regrown (cell_row HR1.out 2 _ rfl) d os
  have fHR3 := fun d os => cell_regrown (cell_row HR1.out 3 _ rfl) d os
  have fHR4 := fun d os => cell_regrown (cell_row HR1.out 4 _ rfl) d os
  have fHR5 := fun d os => cell_regrown (cell_row HR1.out 5 _ rfl) d os
  have fHX0 := fun d os => cell_regrown (cell_row HX1.out 0 _ rfl) d os
  have fHX1 := fun d os => cell_regrown (cell_row HX1.out 1 _ rfl) d os
  have fHX2 := fun d os => cell_regrown (cell_row HX1.out 2 _ rfl) d os
  have fHX3 := fun d os => cell_regrown (cell_row HX1.out 3 _ rfl) d os
  have fHX4 := fun d os => cell_regrown (cell_row HX1.out 4 _ rfl) d os
  have fHX5 := fun d os => cell_regrown (cell_row HX1.out 5 _ rfl) d os
  have fHP0 := fun d os => cell_regrown (cell_row HP1.out 0 _ rfl) d os
  have fHP1 := fun d os => cell_regrown (cell_row HP1.out 1 _ rfl) d os
  have fHP2 := fun d os => cell_regrown (cell_row HP1.out 2 _ rfl) d os
  refine wp_region_quiet_below (by kernel_rfl) (by kernel_rfl) ?_
  repeat (go_big_quiet_step (first | (with_reducible exact Q1.out _ _) | (with_reducible exact Q2.out _ _)))
  refine wpQuiet_nil ?_
  first | (rintro _ ⟨⟨dq, osq⟩, rfl⟩) | (rintro ⟨dq, osq⟩)
  have hb := below_regrown y1 dq osq
  obtain ⟨y2, hW⟩ : ∃ ww, ww = grow (redrawn y1 dq) osq := ⟨_, rfl⟩
  rw [← hW] at hb ⊢
  clear hW
  have HB2 := Lib.hid (HB1.out.trans (hb.mono HB1.out.size))
  have HR2 := Lib.hid (vec_step HR1.out hb)
  have HX2 := Lib.hid (vec_step HX1.out hb)
  have HP2 := Lib.hid (vec_step HP1.out hb)
  clear HB1 HR1 HX1 HP1 hb  fHR0 fHR1 fHR2 fHR3 fHR4 fHR5 fHX0 fHX1 fHX2 fHX3 fHX4 fHX5 fHP0 fHP1 fHP2
  clear Q1 Q2 CA CB CC
  cases okb
  · clear HH
    go_wp2_with fail
    refine (awake_any _).mono ?_
    rintro e y3 ⟨rfl, hb⟩
    have HB3 := Lib.hid (HB2.out.trans (hb.mono HB2.out.size))
    have HR3 := Lib.hid (vec_step HR2.out hb)
    have HX3 := Lib.hid (vec_step HX2.out hb)
    have HP3 := Lib.hid (vec_step HP2.out hb)
    clear HB2 HR2 HX2 HP2 hb  
    go_wp2_with fail
    go_ret
    exact ⟨rfl, HB3.out⟩
  · obtain ⟨rfl, dgt⟩ := HH.out rfl
    clear HH
    go_wp2_with fail
    refine (awake_any _).mono ?_
    rintro e y4 ⟨rfl, hb⟩
    have HB3 := Lib.hid (HB2.out.trans (hb.mono HB2.out.size))
    have HR3 := Lib.hid (vec_step HR2.out hb)
    have HX3 := Lib.hid (vec_step HX2.out hb)
    have HP3 := Lib.hid (vec_step HP2.out hb)
    clear HB2 HR2 HX2 HP2 hb  
    go_wp2_with fail
    go_ret
    exact ⟨rfl, HB3.out⟩

end Go.Proofs.Ytdmmbhcaejojeaa.HitA
