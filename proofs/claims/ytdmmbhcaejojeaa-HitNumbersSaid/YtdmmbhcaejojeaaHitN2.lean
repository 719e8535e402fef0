/- The walk of HitNumbers. -/
import Derived.Test.YtdmmbhcaejojeaaHitN1
import Derived.Test.YtdmmbhcaejojeaaLex
set_option linter.unusedVariables false
set_option linter.unusedSimpArgs false
namespace Go.Proofs.Ytdmmbhcaejojeaa.HitN2
open Go.RowKit Go.Sort FixM Base Num FixW Qb Qt Qa Qf Qg Qr Qs Qz VecW VecV VecU LightQ LightC MeshM Rec MeshA MeshB MeshC MeshD MeshE MeshP MeshEq HitM HitT HitB HitX HitN HitC HitS HitV HitW HitR3 HitY HitZ HitQ HitN1
theorem fld_at (g : Nat) (w : World) : (Instr.field 44 (.agg #[.slice none 0 0, .slice none 0 0, .slice (some ⟨g, 0, none⟩) 1 1]) 2).run Try.prog w = .ok (.slice (some ⟨g, 0, none⟩) 1 1) w := by kernel_rfl
set_option maxRecDepth 100000 in
set_option maxHeartbeats 32000000 in
theorem hitNumbers_any (w : World) : Calls Try.prog 3 #[] w (AwTo w) := by
  have HB0 := Lib.hid (Below.refl w.heap.size w)
  have SH1 := same_hit 0 (-1) 0 0
  have SV1 := same_vec 0 0 (-4294967296)
  have SV2 := same_vec 0 0 4294967296
  have SV3 := same_vec 0 0 0
  go_enter Try.func3, Try.ntmps3
  go_wp2_with fail
  refine (from_0_0_n5 _).mono ?_
  rintro e y11 ⟨rfl, hb⟩
  have HB1 := Lib.hid (HB0.out.trans (hb.mono HB0.out.size))
  clear HB0 hb  
  go_upto_region 2 with (fail)
  have hx := ext_alloc y11 (.cells #[.int .i64 0, .int .i64 0, .int .i64 (-21474836480), .int .i64 0, .int .i64 0, .int .i64 4294967296] 25)
  have hn := heap_alloc_new y11 (.cells #[.int .i64 0, .int .i64 0, .int .i64 (-21474836480), .int .i64 0, .int .i64 0, .int .i64 4294967296] 25)
  obtain ⟨y12, hW⟩ : ∃ ww, ww = y11.alloc (.cells #[.int .i64 0, .int .i64 0, .int .i64 (-21474836480), .int .i64 0, .int .i64 0, .int .i64 4294967296] 25) := ⟨_, rfl⟩
  rw [← hW] at hx hn ⊢
  clear hW
  have HB2 := Lib.hid (HB1.out.trans (hx.mono HB1.out.size))
  clear HB1 hx  
  have HA2 := Lib.hid (hn)
  clear hn
  generalize y11.heap.size = gHA at HA2 ⊢
  go_wp2_with fail
  refine (of_n1_n1_n1 _).mono ?_
  rintro e y13 ⟨rfl, hb⟩
  have HB3 := Lib.hid (HB2.out.trans (hb.mono HB2.out.size))
  have HA3 := Lib.hid (vec_step HA2.out hb)
  clear HB2 HA2 hb  
  go_wp2_with fail
  refine (of_1_1_1 _).mono ?_
  rintro e y14 ⟨rfl, hb⟩
  have HB4 := Lib.hid (HB3.out.trans (hb.mono HB3.out.size))
  have HA4 := Lib.hid (vec_step HA3.out hb)
  clear HB3 HA3 hb  
  go_upto_region 3 with (fail)
  have hx := ext_alloc y14 (.cells #[.int .i64 (-4294967296), .int .i64 (-4294967296), .int .i64 (-4294967296), .int .i64 4294967296, .int .i64 4294967296, .int .i64 4294967296] 29)
  have hn := heap_alloc_new y14 (.cells #[.int .i64 (-4294967296), .int .i64 (-4294967296), .int .i64 (-4294967296), .int .i64 4294967296, .int .i64 4294967296, .int .i64 4294967296] 29)
  obtain ⟨y15, hW⟩ : ∃ ww, ww = y14.alloc (.cells #[.int .i64 (-4294967296), .int .i64 (-4294967296), .int .i64 (-4294967296), .int .i64 4294967296, .int .i64 4294967296, .int .i64 4294967296] 29) := ⟨_, rfl⟩
  rw [← hW] at hx hn ⊢
  clear hW
  have HB5 := Lib.hid (HB4.out.trans (hx.mono HB4.out.size))
  have HA5 := Lib.hid (vec_step HA4.out hx)
  clear HB4 HA4 hx  
  have HX5 := Lib.hid (hn)
  clear hn
  generalize y14.heap.size = gHX at HX5 ⊢
  have Q1 := Lib.hid (qb (P := Try.prog) (W := y15) (fun w2 hb => from_1_1_0 w2))
  have Q2 := Lib.hid (qb (P := Try.prog) (W := y15) (fun w2 hb => cBox_r1bU w2))
  have fHX0 := fun d os => cell_regrown (cell_row HX5.out 0 _ rfl) d os
  have fHX1 := fun d os => cell_regrown (cell_row HX5.out 1 _ rfl) d os
  have fHX2 := fun d os => cell_regrown (cell_row HX5.out 2 _ rfl) d os
  have fHX3 := fun d os => cell_regrown (cell_row HX5.out 3 _ rfl) d os
  have fHX4 := fun d os => cell_regrown (cell_row HX5.out 4 _ rfl) d os
  have fHX5 := fun d os => cell_regrown (cell_row HX5.out 5 _ rfl) d os
  refine wp_region_quiet_below (by kernel_rfl) (by kernel_rfl) ?_
  repeat (go_big_quiet_step (first | (with_reducible exact Q1.out _ _) | (with_reducible exact Q2.out _ _)))
  refine wpQuiet_nil ?_
  first | (rintro _ ⟨⟨dq, osq⟩, rfl⟩) | (rintro ⟨dq, osq⟩)
  have hb := below_regrown y15 dq osq
  obtain ⟨y16, hW⟩ : ∃ ww, ww = grow (redrawn y15 dq) osq := ⟨_, rfl⟩
  rw [← hW] at hb ⊢
  clear hW
  have HB6 := Lib.hid (HB5.out.trans (hb.mono HB5.out.size))
  have HA6 := Lib.hid (vec_step HA5.out hb)
  have HX6 := Lib.hid (vec_step HX5.out hb)
  clear HB5 HA5 HX5 hb  fHX0 fHX1 fHX2 fHX3 fHX4 fHX5
  clear Q1 Q2
  go_upto_region 4 with (fail)
  have Q3 := Lib.hid (qb (P := Try.prog) (W := y16) (fun w2 hb => from_0_0_2 w2))
  have Q4 := Lib.hid (qb (P := Try.prog) (W := y16) (fun w2 hb => cBox_r2bU w2))
  have fHX0 := fun d os => cell_regrown (cell_row HX6.out 0 _ rfl) d os
  have fHX1 := fun d os => cell_regrown (cell_row HX6.out 1 _ rfl) d os
  have fHX2 := fun d os => cell_regrown (cell_row HX6.out 2 _ rfl) d os
  have fHX3 := fun d os => cell_regrown (cell_row HX6.out 3 _ rfl) d os
  have fHX4 := fun d os => cell_regrown (cell_row HX6.out 4 _ rfl) d os
  have fHX5 := fun d os => cell_regrown (cell_row HX6.out 5 _ rfl) d os
  refine wp_region_quiet_below (by kernel_rfl) (by kernel_rfl) ?_
  repeat (go_big_quiet_step (first | (with_reducible exact Q3.out _ _) | (with_reducible exact Q4.out _ _)))
  refine wpQuiet_nil ?_
  first | (rintro _ ⟨⟨dq, osq⟩, rfl⟩) | (rintro ⟨dq, osq⟩)
  have hb := below_regrown y16 dq osq
  obtain ⟨y17, hW⟩ : ∃ ww, ww = grow (redrawn y16 dq) osq := ⟨_, rfl⟩
  rw [← hW] at hb ⊢
  clear hW
  have HB7 := Lib.hid (HB6.out.trans (hb.mono HB6.out.size))
  have HA7 := Lib.hid (vec_step HA6.out hb)
  have HX7 := Lib.hid (vec_step HX6.out hb)
  clear HB6 HA6 HX6 hb  fHX0 fHX1 fHX2 fHX3 fHX4 fHX5
  clear Q3 Q4
  go_upto_region 5 with (fail)
  have Q5 := Lib.hid (qb (P := Try.prog) (W := y17) (fun w2 hb => of_0_0_5 w2))
  have Q6 := Lib.hid (qb (P := Try.prog) (W := y17) (fun w2 hb => of_0_0_n2 w2))
  have Q7 := Lib.hid (qb (P := Try.prog) (W := y17) (fun w2 hb => cBox_r3bU w2))
  have fHX0 := fun d os => cell_regrown (cell_row HX7.out 0 _ rfl) d os
  have fHX1 := fun d os => cell_regrown (cell_row HX7.out 1 _ rfl) d os
  have fHX2 := fun d os => cell_regrown (cell_row HX7.out 2 _ rfl) d os
  have fHX3 := fun d os => cell_regrown (cell_row HX7.out 3 _ rfl) d os
  have fHX4 := fun d os => cell_regrown (cell_row HX7.out 4 _ rfl) d os
  have fHX5 := fun d os => cell_regrown (cell_row HX7.out 5 _ rfl) d os
  refine wp_region_quiet_below (by kernel_rfl) (by kernel_rfl) ?_
  repeat (go_big_quiet_step (first | (with_reducible exact Q5.out _ _) | (with_reducible exact Q6.out _ _) | (with_reducible exact Q7.out _ _)))
  refine wpQuiet_nil ?_
  first | (rintro _ ⟨⟨dq, osq⟩, rfl⟩) | (rintro ⟨dq, osq⟩)
  have hb := below_regrown y17 dq osq
  obtain ⟨y18, hW⟩ : ∃ ww, ww = grow (redrawn y17 dq) osq := ⟨_, rfl⟩
  rw [← hW] at hb ⊢
  clear hW
  have HB8 := Lib.hid (HB7.out.trans (hb.mono HB7.out.size))
  have HA8 := Lib.hid (vec_step HA7.out hb)
  have HX8 := Lib.hid (vec_step HX7.out hb)
  clear HB7 HA7 HX7 hb  fHX0 fHX1 fHX2 fHX3 fHX4 fHX5
  clear Q5 Q6 Q7
  have cHX0 := cell_row HX8.out 0 _ rfl
  have cHX1 := cell_row HX8.out 1 _ rfl
  have cHX2 := cell_row HX8.out 2 _ rfl
  have cHX3 := cell_row HX8.out 3 _ rfl
  have cHX4 := cell_row HX8.out 4 _ rfl
  have cHX5 := cell_row HX8.out 5 _ rfl
  go_wp2_with fail
  refine (cBox_r4bU _).mono ?_
  rintro e y19 ⟨rfl, hb⟩
  have HB9 := Lib.hid (HB8.out.trans (hb.mono HB8.out.size))
  have HA9 := Lib.hid (vec_step HA8.out hb)
  have HX9 := Lib.hid (vec_step HX8.out hb)
  clear HB8 HA8 HX8 hb cHX0 cHX1 cHX2 cHX3 cHX4 cHX5 
  go_upto_region 7 with (fail)
  have Q8 := Lib.hid (qb (P := Try.prog) (W := y19) (fun w2 hb => of_2_0_0 w2))
  have Q9 := Lib.hid (qb (P := Try.prog) (W := y19) (fun w2 hb => cBox_r5bU w2))
  have fHX0 := fun d os => cell_regrown (cell_row HX9.out 0 _ rfl) d os
  have fHX1 := fun d os => cell_regrown (cell_row HX9.out 1 _ rfl) d os
  have fHX2 := fun d os => cell_regrown (cell_row HX9.out 2 _ rfl) d os
  have fHX3 := fun d os => cell_regrown (cell_row HX9.out 3 _ rfl) d os
  have fHX4 := fun d os => cell_regrown (cell_row HX9.out 4 _ rfl) d os
  have fHX5 := fun d os => cell_regrown (cell_row HX9.out 5 _ rfl) d os
  refine wp_region_quiet_below (by kernel_rfl) (by kernel_rfl) ?_
  repeat (go_big_quiet_step (first | (with_reducible exact Q8.out _ _) | (with_reducible exact Q9.out _ _)))
  refine wpQuiet_nil ?_
  first | (rintro _ ⟨⟨dq, osq⟩, rfl⟩) | (rintro ⟨dq, osq⟩)
  have hb := below_regrown y19 dq osq
  obtain ⟨y20, hW⟩ : ∃ ww, ww = grow (redrawn y19 dq) osq := ⟨_, rfl⟩
  rw [← hW] at hb ⊢
  clear hW
  have HB10 := Lib.hid (HB9.out.trans (hb.mono HB9.out.size))
  have HA10 := Lib.hid (vec_step HA9.out hb)
  have HX10 := Lib.hid (vec_step HX9.out hb)
  clear HB9 HA9 HX9 hb  fHX0 fHX1 fHX2 fHX3 fHX4 fHX5
  clear Q8 Q9
  go_upto_region 8 with (fail)
  have Q10 := Lib.hid (qb (P := Try.prog) (W := y20) (fun w2 hb => of_1_1_1 w2))
  have Q11 := Lib.hid (qb (P := Try.prog) (W := y20) (fun w2 hb => of_n1_n1_n1 w2))
  have Q12 := Lib.hid (qb (P := Try.prog) (W := y20) (fun w2 hb => cBox_rAbD w2))
  have fHA0 := fun d os => cell_regrown (cell_row HA10.out 0 _ rfl) d os
  have fHA1 := fun d os => cell_regrown (cell_row HA10.out 1 _ rfl) d os
  have fHA2 := fun d os => cell_regrown (cell_row HA10.out 2 _ rfl) d os
  have fHA3 := fun d os => cell_regrown (cell_row HA10.out 3 _ rfl) d os
  have fHA4 := fun d os => cell_regrown (cell_row HA10.out 4 _ rfl) d os
  have fHA5 := fun d os => cell_regrown (cell_row HA10.out 5 _ rfl) d os
  refine wp_region_quiet_below (by kernel_rfl) (by kernel_rfl) ?_
  repeat (go_big_quiet_step (first | (with_reducible exact Q10.out _ _) | (with_reducible exact Q11.out _ _) | (with_reducible exact Q12.out _ _)))
  refine wpQuiet_nil ?_
  first | (rintro _ ⟨⟨dq, osq⟩, rfl⟩) | (rintro ⟨dq, osq⟩)
  have hb := below_regrown y20 dq osq
  obtain ⟨y21, hW⟩ : ∃ ww, ww = grow (redrawn y20 dq) osq := ⟨_, rfl⟩
  rw [← hW] at hb ⊢
  clear hW
  have HB11 := Lib.hid (HB10.out.trans (hb.mono HB10.out.size))
  have HA11 := Lib.hid (vec_step HA10.out hb)
  have HX11 := Lib.hid (vec_step HX10.out hb)
  clear HB10 HA10 HX10 hb  fHA0 fHA1 fHA2 fHA3 fHA4 fHA5
  clear Q10 Q11 Q12
  clear HX11
  go_upto_region 10 with (fail)
  refine wp_region_free 328 [0, 1, 2, 3, 4, 5, 6, 7, 10] [⟨8, 16, #[.int .i64 0, .int .i64 0, .int .i64 0, .int .i64 0], 33, 9, 121, #[.int .i64 0, .int .i64 0, .int .i64 0, .int .i64 0]⟩] (by kernel_rfl) rfl (by kernel_rfl) (by
    intro x hx
    simp only [List.mem_cons, List.not_mem_nil, or_false] at hx
    subst hx
    exact ⟨⟨_, rfl, ⟨⟨_, rfl, alloc_hit⟩, rfl, rfl⟩⟩, _, rfl, ⟨⟨_, rfl, hit_size⟩, rfl, rfl, rfl, row_one4 _ _ _ _⟩⟩) ?_
  refine Walk.step (A := ?A1) (o := ?o1) ?e1 ?w1 116 ?d1 (by simp) ?h1 ?n1
  case e1 => simp only [List.getElem?_toArray, List.getElem?_cons_succ, List.getElem?_cons_zero]; exact rfl
  case w1 => exact rfl
  case d1 => exact rfl
  case h1 =>
    intro W9 hW9
    have z0 := cell_all (vec_step HA11.out hW9) 0 _ rfl
    have z1 := cell_all (vec_step HA11.out hW9) 1 _ rfl
    have z2 := cell_all (vec_step HA11.out hW9) 2 _ rfl
    have z3 := cell_all (vec_step HA11.out hW9) 3 _ rfl
    have z4 := cell_all (vec_step HA11.out hW9) 4 _ rfl
    have z5 := cell_all (vec_step HA11.out hW9) 5 _ rfl
    go_big_quiet_op
    exact rfl
  refine Walk.step (A := ?A2) (o := ?o2) ?e2 ?w2 117 ?d2 (by simp) ?h2 ?n2
  case e2 => simp only [List.getElem?_toArray, List.getElem?_cons_succ, List.getElem?_cons_zero]; exact rfl
  case w2 => exact rfl
  case d2 => exact rfl
  case h2 =>
    intro W9 hW9
    go_big_quiet_op
    apply Exists.intro
    refine ⟨fun _ => ?_, ?_⟩
    · with_reducible exact (qb (P := Try.prog) (fun w2 _ => of_0_0_0 w2)) _ _
    exact rfl
  refine Walk.step (A := ?A3) (o := ?o3) ?e3 ?w3 118 ?d3 (by simp) ?h3 ?n3
  case e3 => simp only [List.getElem?_toArray, List.getElem?_cons_succ, List.getElem?_cons_zero]; exact rfl
  case w3 => exact rfl
  case d3 => exact rfl
  case h3 =>
    intro W9 hW9
    go_big_quiet_op
    apply Exists.intro
    refine ⟨fun _ => ?_, ?_⟩
    · with_reducible exact (qb (P := Try.prog) (fun w2 _ => of_0_0_1 w2)) _ _
    exact rfl
  refine Walk.step (A := ?A4) (o := ?o4) ?e4 ?w4 119 ?d4 (by simp) ?h4 ?n4
  case e4 => simp only [List.getElem?_toArray, List.getElem?_cons_succ, List.getElem?_cons_zero]; exact rfl
  case w4 => exact rfl
  case d4 => exact rfl
  case h4 =>
    intro W9 hW9
    go_big_quiet_op
    apply Exists.intro
    refine ⟨fun _ => ?_, ?_⟩
    · with_reducible exact (qb (P := Try.prog) (fun w2 _ => of_0_1_0 w2)) _ _
    exact rfl
  refine Walk.step (A := ?A5) (o := ?o5) ?e5 ?w5 120 ?d5 (by simp) ?h5 ?n5
  case e5 => simp only [List.getElem?_toArray, List.getElem?_cons_succ, List.getElem?_cons_zero]; exact rfl
  case w5 => exact rfl
  case d5 => exact rfl
  case h5 =>
    intro W9 hW9
    go_big_quiet_op
    apply Exists.intro
    refine ⟨fun _ => ?_, ?_⟩
    · with_reducible exact (qb (P := Try.prog) (fun w2 _ => cTri_rAq0 w2)) _ _
    exact rfl
  refine Walk.step (A := ?A6) (o := ?o6) ?e6 ?w6 115 ?d6 (by simp) ?h6 ?n6
  case e6 => simp only [List.getElem?_toArray, List.getElem?_cons_succ, List.getElem?_cons_zero]; exact rfl
  case w6 => exact rfl
  case d6 => exact rfl
  case h6 =>
    intro W9 hW9
    go_big_quiet_op
    exact rfl
  refine Walk.step (A := ?A7) (o := ?o7) ?e7 ?w7 121 ?d7 (by simp) ?h7 ?n7
  case e7 => simp only [List.getElem?_toArray, List.getElem?_cons_succ, List.getElem?_cons_zero]; exact rfl
  case w7 => exact rfl
  case d7 => exact rfl
  case h7 =>
    intro W9 hW9
    go_big_quiet_op
    exact rfl
  refine Walk.step (A := ?A8) (o := ?o8) ?e8 ?w8 122 ?d8 (by simp) ?h8 ?n8
  case e8 => simp only [List.getElem?_toArray, List.getElem?_cons_succ, List.getElem?_cons_zero]; exact rfl
  case w8 => exact rfl
  case d8 => exact rfl
  case h8 =>
    intro W9 hW9
    go_big_quiet_op
    exact rfl
  refine Walk.step (A := ?A9) (o := ?o9) ?e9 ?w9 17 ?d9 (by simp) ?h9 ?n9
  case e9 => simp only [List.getElem?_toArray, List.getElem?_cons_succ, List.getElem?_cons_zero]; exact rfl
  case w9 => exact rfl
  case d9 => exact rfl
  case h9 =>
    intro W9 hW9
    go_big_quiet_op
    exact rfl
  refine ⟨?_, ?_⟩
  · intro x hx
    simp only [List.mem_cons, List.not_mem_nil, or_false] at hx
    subst hx
    rfl
  intro G hG hne y22 hb hk
  have k7 := hk _ (List.mem_cons_self ..)
  dsimp only at k7
  simp only [lay, Act.put, List.setIfInBounds_toArray, List.set_cons_succ, List.set_cons_zero, ptr]
  generalize G 8 = gHF at k7 ⊢
  clear hG hne hk
  have HB12 := Lib.hid (HB11.out.trans (hb.mono HB11.out.size))
  have HA12 := Lib.hid (vec_step HA11.out hb)
  clear HB11 HA11 hb  
  have HF12 := Lib.hid (k7)
  clear k7
  clear HF12
  go_wp2_with fail
  refine (from_0_0_5 _).mono ?_
  rintro e y23 ⟨rfl, hb⟩
  have HB13 := Lib.hid (HB12.out.trans (hb.mono HB12.out.size))
  have HA13 := Lib.hid (vec_step HA12.out hb)
  clear HB12 HA12 hb  
  go_wp2_with fail
  refine (of_n1_n1_0 _).mono ?_
  rintro e y24 ⟨rfl, hb⟩
  have HB14 := Lib.hid (HB13.out.trans (hb.mono HB13.out.size))
  have HA14 := Lib.hid (vec_step HA13.out hb)
  clear HB13 HA13 hb  
  go_wp2_with fail
  refine (of_1_n1_0 _).mono ?_
  rintro e y25 ⟨rfl, hb⟩
  have HB15 := Lib.hid (HB14.out.trans (hb.mono HB14.out.size))
  have HA15 := Lib.hid (vec_step HA14.out hb)
  clear HB14 HA14 hb  
  go_wp2_with fail
  refine (of_0_1_0 _).mono ?_
  rintro e y26 ⟨rfl, hb⟩
  have HB16 := Lib.hid (HB15.out.trans (hb.mono HB15.out.size))
  have HA16 := Lib.hid (vec_step HA15.out hb)
  clear HB15 HA15 hb  
  go_wp2_with fail
  refine (cTri_r6pA _).mono ?_
  rintro e y27 ⟨rfl, hb⟩
  have HB17 := Lib.hid (HB16.out.trans (hb.mono HB16.out.size))
  have HA17 := Lib.hid (vec_step HA16.out hb)
  clear HB16 HA16 hb  
  go_upto_region 12 with (fail)
  have hx := ext_alloc y27 (.cells #[.int .i64 0, .int .i64 0, .int .i64 0, .int .i64 0] 33)
  have hn := heap_alloc_new y27 (.cells #[.int .i64 0, .int .i64 0, .int .i64 0, .int .i64 0] 33)
  obtain ⟨y28, hW⟩ : ∃ ww, ww = y27.alloc (.cells #[.int .i64 0, .int .i64 0, .int .i64 0, .int .i64 0] 33) := ⟨_, rfl⟩
  rw [← hW] at hx hn ⊢
  clear hW
  have HB18 := Lib.hid (HB17.out.trans (hx.mono HB17.out.size))
  have HA18 := Lib.hid (vec_step HA17.out hx)
  clear HB17 HA17 hx  
  have HG18 := Lib.hid (hn)
  clear hn
  generalize y27.heap.size = gHG at HG18 ⊢
  clear HG18
  go_wp2_with fail
  refine (from_n1_n1_n1 _).mono ?_
  rintro e y29 ⟨rfl, hb⟩
  have HB19 := Lib.hid (HB18.out.trans (hb.mono HB18.out.size))
  have HA19 := Lib.hid (vec_step HA18.out hb)
  clear HB18 HA18 hb  
  go_wp2_with fail
  refine (of_n1_n1_0 _).mono ?_
  rintro e y30 ⟨rfl, hb⟩
  have HB20 := Lib.hid (HB19.out.trans (hb.mono HB19.out.size))
  have HA20 := Lib.hid (vec_step HA19.out hb)
  clear HB19 HA19 hb  
  go_wp2_with fail
  refine (of_1_n1_0 _).mono ?_
  rintro e y31 ⟨rfl, hb⟩
  have HB21 := Lib.hid (HB20.out.trans (hb.mono HB20.out.size))
  have HA21 := Lib.hid (vec_step HA20.out hb)
  clear HB20 HA20 hb  
  go_wp2_with fail
  refine (of_0_1_0 _).mono ?_
  rintro e y32 ⟨rfl, hb⟩
  have HB22 := Lib.hid (HB21.out.trans (hb.mono HB21.out.size))
  have HA22 := Lib.hid (vec_step HA21.out hb)
  clear HB21 HA21 hb  
  go_wp2_with fail
  refine (cTri_r7pA _).mono ?_
  rintro e y33 ⟨rfl, hb⟩
  have HB23 := Lib.hid (HB22.out.trans (hb.mono HB22.out.size))
  have HA23 := Lib.hid (vec_step HA22.out hb)
  clear HB22 HA22 hb  
  go_upto_region 13 with (fail)
  have hx := ext_alloc y33 (.cells #[.int .i64 4294967296, .int .i64 0, .int .i64 0, .int .i64 0] 33)
  have hn := heap_alloc_new y33 (.cells #[.int .i64 4294967296, .int .i64 0, .int .i64 0, .int .i64 0] 33)
  obtain ⟨y34, hW⟩ : ∃ ww, ww = y33.alloc (.cells #[.int .i64 4294967296, .int .i64 0, .int .i64 0, .int .i64 0] 33) := ⟨_, rfl⟩
  rw [← hW] at hx hn ⊢
  clear hW
  have HB24 := Lib.hid (HB23.out.trans (hx.mono HB23.out.size))
  have HA24 := Lib.hid (vec_step HA23.out hx)
  clear HB23 HA23 hx  
  have HE24 := Lib.hid (hn)
  clear hn
  generalize y33.heap.size = gHE at HE24 ⊢
  go_wp2_with fail
  refine (from_0_0_0 _).mono ?_
  rintro e y35 ⟨rfl, hb⟩
  have HB25 := Lib.hid (HB24.out.trans (hb.mono HB24.out.size))
  have HA25 := Lib.hid (vec_step HA24.out hb)
  have HE25 := Lib.hid (vec_step HE24.out hb)
  clear HB24 HA24 HE24 hb  
  go_wp2_with fail
  refine (bal_any _).mono ?_
  rintro e y36 ⟨vb, rfl, ⟨gb, rfl, hgb⟩, hb⟩
  have HB26 := Lib.hid (HB25.out.trans (hb.mono HB25.out.size))
  have HA26 := Lib.hid (vec_step HA25.out hb)
  have HE26 := Lib.hid (vec_step HE25.out hb)
  clear HB25 HA25 HE25 hb  
  have HBL26 := Lib.hid (hgb)
  clear hgb
  have cHBL0 := cell_row HBL26.out 0 _ rfl
  have cHBL1 := cell_row HBL26.out 1 _ rfl
  have cHBL2 := cell_row HBL26.out 2 _ rfl
  have cHBL3 := cell_row HBL26.out 3 _ rfl
  have fl := fld_at gb
  go_wp2_with fail
  clear fl
  refine (cBal_r8 _).mono ?_
  rintro e y37 ⟨rfl, hb⟩
  have HB27 := Lib.hid (HB26.out.trans (hb.mono HB26.out.size))
  have HA27 := Lib.hid (vec_step HA26.out hb)
  have HE27 := Lib.hid (vec_step HE26.out hb)
  have HBL27 := Lib.hid (vec_step HBL26.out hb)
  clear HB26 HA26 HE26 HBL26 hb cHBL0 cHBL1 cHBL2 cHBL3 
  clear HBL27
  go_upto_region 14 with (fail)
  go_wp2_with fail
  refine (of_0_0_0 _).mono ?_
  rintro e y38 ⟨rfl, hb⟩
  have HB28 := Lib.hid (HB27.out.trans (hb.mono HB27.out.size))
  have HA28 := Lib.hid (vec_step HA27.out hb)
  have HE28 := Lib.hid (vec_step HE27.out hb)
  clear HB27 HA27 HE27 hb  
  go_wp2_with fail
  refine (bal_any _).mono ?_
  rintro e y39 ⟨vb, rfl, ⟨gb, rfl, hgb⟩, hb⟩
  have HB29 := Lib.hid (HB28.out.trans (hb.mono HB28.out.size))
  have HA29 := Lib.hid (vec_step HA28.out hb)
  have HE29 := Lib.hid (vec_step HE28.out hb)
  clear HB28 HA28 HE28 hb  
  have HBL29 := Lib.hid (hgb)
  clear hgb
  have cHBL0 := cell_row HBL29.out 0 _ rfl
  have cHBL1 := cell_row HBL29.out 1 _ rfl
  have cHBL2 := cell_row HBL29.out 2 _ rfl
  have cHBL3 := cell_row HBL29.out 3 _ rfl
  have fl := fld_at gb
  go_wp2_with fail
  clear fl
  refine (cBal_r4 _).mono ?_
  rintro e y40 ⟨rfl, hb⟩
  have HB30 := Lib.hid (HB29.out.trans (hb.mono HB29.out.size))
  have HA30 := Lib.hid (vec_step HA29.out hb)
  have HE30 := Lib.hid (vec_step HE29.out hb)
  have HBL30 := Lib.hid (vec_step HBL29.out hb)
  clear HB29 HA29 HE29 HBL29 hb cHBL0 cHBL1 cHBL2 cHBL3 
  clear HBL30
  go_upto_region 15 with (fail)
  have cHE0 := cell_row HE30.out 0 _ rfl
  have cHE1 := cell_row HE30.out 1 _ rfl
  have cHE2 := cell_row HE30.out 2 _ rfl
  have cHE3 := cell_row HE30.out 3 _ rfl
  go_upto_region 16 with (fail)
  clear cHE0 cHE1 cHE2 cHE3
  clear HE30
  go_wp2_with fail
  refine (of_n1_n1_0 _).mono ?_
  rintro e y41 ⟨rfl, hb⟩
  have HB31 := Lib.hid (HB30.out.trans (hb.mono HB30.out.size))
  have HA31 := Lib.hid (vec_step HA30.out hb)
  clear HB30 HA30 hb  
  go_wp2_with fail
  refine (of_1_n1_0 _).mono ?_
  rintro e y42 ⟨rfl, hb⟩
  have HB32 := Lib.hid (HB31.out.trans (hb.mono HB31.out.size))
  have HA32 := Lib.hid (vec_step HA31.out hb)
  clear HB31 HA31 hb  
  go_wp2_with fail
  refine (of_0_1_0 _).mono ?_
  rintro e y43 ⟨rfl, hb⟩
  have HB33 := Lib.hid (HB32.out.trans (hb.mono HB32.out.size))
  have HA33 := Lib.hid (vec_step HA32.out hb)
  clear HB32 HA32 hb  
  go_wp2_with fail
  have h1 := alloc2_0 y43 (.cells #[.int .i64 (-4294967296), .int .i64 (-4294967296), .int .i64 0, .int .i64 4294967296, .int .i64 (-4294967296), .int .i64 0, .int .i64 0, .int .i64 4294967296, .int .i64 0] 23) (.cells #[.int .i64 0, .int .i64 1, .int .i64 2, .int .i64 0, .int .i64 1, .int .i64 2, .int .i64 0, .int .i64 1, .int .i64 5] 46)
  have h2 := alloc2_1 y43 (.cells #[.int .i64 (-4294967296), .int .i64 (-4294967296), .int .i64 0, .int .i64 4294967296, .int .i64 (-4294967296), .int .i64 0, .int .i64 0, .int .i64 4294967296, .int .i64 0] 23) (.cells #[.int .i64 0, .int .i64 1, .int .i64 2, .int .i64 0, .int .i64 1, .int .i64 2, .int .i64 0, .int .i64 1, .int .i64 5] 46)
  have hx := alloc2_below y43 (.cells #[.int .i64 (-4294967296), .int .i64 (-4294967296), .int .i64 0, .int .i64 4294967296, .int .i64 (-4294967296), .int .i64 0, .int .i64 0, .int .i64 4294967296, .int .i64 0] 23) (.cells #[.int .i64 0, .int .i64 1, .int .i64 2, .int .i64 0, .int .i64 1, .int .i64 2, .int .i64 0, .int .i64 1, .int .i64 5] 46)
  obtain ⟨y44, hW⟩ : ∃ ww, ww = (y43.alloc (.cells #[.int .i64 (-4294967296), .int .i64 (-4294967296), .int .i64 0, .int .i64 4294967296, .int .i64 (-4294967296), .int .i64 0, .int .i64 0, .int .i64 4294967296, .int .i64 0] 23)).alloc (.cells #[.int .i64 0, .int .i64 1, .int .i64 2, .int .i64 0, .int .i64 1, .int .i64 2, .int .i64 0, .int .i64 1, .int .i64 5] 46) := ⟨_, rfl⟩
  rw [← hW] at h1 h2 hx ⊢
  clear hW
  have HB34 := Lib.hid (HB33.out.trans (hx.mono HB33.out.size))
  have HA34 := Lib.hid (vec_step HA33.out hx)
  clear HB33 HA33 hx  
  have HPS34 := Lib.hid (h1)
  have HTS34 := Lib.hid (h2)
  clear h1 h2
  generalize y43.heap.size + 1 = gHTS at HTS34 ⊢
  generalize y43.heap.size = gHPS at HPS34 HTS34 ⊢
  refine (of_0_0_1 _).mono ?_
  rintro e y45 ⟨rfl, hb⟩
  have HB35 := Lib.hid (HB34.out.trans (hb.mono HB34.out.size))
  have HA35 := Lib.hid (vec_step HA34.out hb)
  have HPS35 := Lib.hid (vec_step HPS34.out hb)
  have HTS35 := Lib.hid (vec_step HTS34.out hb)
  clear HB34 HA34 HPS34 HTS34 hb  
  go_upto_region 17 with (fail)
  have h1 := alloc2_0 y45 (.cells #[.int .i64 0, .int .i64 0, .int .i64 4294967296, .int .i64 4294967296] 39) (.cells #[.slice (some ⟨gHPS, 0, none⟩) 3 3, .slice (some ⟨gHTS, 0, none⟩) 3 3, .slice (some ⟨y45.heap.size, 0, none⟩) 1 1] 44)
  have h2 := alloc2_1 y45 (.cells #[.int .i64 0, .int .i64 0, .int .i64 4294967296, .int .i64 4294967296] 39) (.cells #[.slice (some ⟨gHPS, 0, none⟩) 3 3, .slice (some ⟨gHTS, 0, none⟩) 3 3, .slice (some ⟨y45.heap.size, 0, none⟩) 1 1] 44)
  have hx := alloc2_below y45 (.cells #[.int .i64 0, .int .i64 0, .int .i64 4294967296, .int .i64 4294967296] 39) (.cells #[.slice (some ⟨gHPS, 0, none⟩) 3 3, .slice (some ⟨gHTS, 0, none⟩) 3 3, .slice (some ⟨y45.heap.size, 0, none⟩) 1 1] 44)
  obtain ⟨y46, hW⟩ : ∃ ww, ww = (y45.alloc (.cells #[.int .i64 0, .int .i64 0, .int .i64 4294967296, .int .i64 4294967296] 39)).alloc (.cells #[.slice (some ⟨gHPS, 0, none⟩) 3 3, .slice (some ⟨gHTS, 0, none⟩) 3 3, .slice (some ⟨y45.heap.size, 0, none⟩) 1 1] 44) := ⟨_, rfl⟩
  rw [← hW] at h1 h2 hx ⊢
  clear hW
  have HB36 := Lib.hid (HB35.out.trans (hx.mono HB35.out.size))
  have HA36 := Lib.hid (vec_step HA35.out hx)
  have HPS36 := Lib.hid (vec_step HPS35.out hx)
  have HTS36 := Lib.hid (vec_step HTS35.out hx)
  clear HB35 HA35 HPS35 HTS35 hx  
  have HBS36 := Lib.hid (h1)
  have HM36 := Lib.hid (h2)
  clear h1 h2
  generalize y45.heap.size + 1 = gHM at HM36 ⊢
  generalize y45.heap.size = gHBS at HBS36 HM36 ⊢
  have HT36 := Lib.hid (is_tw HPS36.out HTS36.out HBS36.out)
  clear HPS36 HTS36 HBS36
  have cHM0 := cell_row HM36.out 0 _ rfl
  have cHM1 := cell_row HM36.out 1 _ rfl
  have cHM2 := cell_row HM36.out 2 _ rfl
  have cHA0 := cell_row HA36.out 0 _ rfl
  have cHA1 := cell_row HA36.out 1 _ rfl
  have cHA2 := cell_row HA36.out 2 _ rfl
  have cHA3 := cell_row HA36.out 3 _ rfl
  have cHA4 := cell_row HA36.out 4 _ rfl
  have cHA5 := cell_row HA36.out 5 _ rfl
  go_wp2_with fail
  refine (c_sc1 _ _ HT36.out).mono ?_
  rintro e y47 ⟨rfl, hb⟩
  have HB37 := Lib.hid (HB36.out.trans (hb.mono HB36.out.size))
  have HA37 := Lib.hid (vec_step HA36.out hb)
  have HM37 := Lib.hid (vec_step HM36.out hb)
  have HT37 := Lib.hid (HT36.out.below hb)
  clear HB36 HA36 HM36 HT36 hb cHM0 cHM1 cHM2 cHA0 cHA1 cHA2 cHA3 cHA4 cHA5 
  go_upto_region 18 with (fail)
  have hx := ext_alloc y47 (.cells #[.int .i64 21474836480, .int .i64 0, .int .i64 1073741824, .int .i64 2147483648] 33)
  have hn := heap_alloc_new y47 (.cells #[.int .i64 21474836480, .int .i64 0, .int .i64 1073741824, .int .i64 2147483648] 33)
  obtain ⟨y48, hW⟩ : ∃ ww, ww = y47.alloc (.cells #[.int .i64 21474836480, .int .i64 0, .int .i64 1073741824, .int .i64 2147483648] 33) := ⟨_, rfl⟩
  rw [← hW] at hx hn ⊢
  clear hW
  have HB38 := Lib.hid (HB37.out.trans (hx.mono HB37.out.size))
  have HA38 := Lib.hid (vec_step HA37.out hx)
  have HM38 := Lib.hid (vec_step HM37.out hx)
  have HT38 := Lib.hid (HT37.out.below hx)
  clear HB37 HA37 HM37 HT37 hx  
  have HS38 := Lib.hid (hn)
  clear hn
  generalize y47.heap.size = gHS at HS38 ⊢
  have cHM0 := cell_row HM38.out 0 _ rfl
  have cHM1 := cell_row HM38.out 1 _ rfl
  have cHM2 := cell_row HM38.out 2 _ rfl
  have cHA0 := cell_row HA38.out 0 _ rfl
  have cHA1 := cell_row HA38.out 1 _ rfl
  have cHA2 := cell_row HA38.out 2 _ rfl
  have cHA3 := cell_row HA38.out 3 _ rfl
  have cHA4 := cell_row HA38.out 4 _ rfl
  have cHA5 := cell_row HA38.out 5 _ rfl
  go_wp2_with fail
  refine (c_sc2 _ _ HT38.out).mono ?_
  rintro e y49 ⟨rfl, hb⟩
  have HB39 := Lib.hid (HB38.out.trans (hb.mono HB38.out.size))
  have HA39 := Lib.hid (vec_step HA38.out hb)
  have HM39 := Lib.hid (vec_step HM38.out hb)
  have HT39 := Lib.hid (HT38.out.below hb)
  have HS39 := Lib.hid (vec_step HS38.out hb)
  clear HB38 HA38 HM38 HT38 HS38 hb cHM0 cHM1 cHM2 cHA0 cHA1 cHA2 cHA3 cHA4 cHA5 
  go_upto_region 19 with (fail)
  have hx := ext_alloc y49 (.cells #[.int .i64 30064771072, .int .i64 3, .int .i64 0, .int .i64 0] 33)
  have hn := heap_alloc_new y49 (.cells #[.int .i64 30064771072, .int .i64 3, .int .i64 0, .int .i64 0] 33)
  obtain ⟨y50, hW⟩ : ∃ ww, ww = y49.alloc (.cells #[.int .i64 30064771072, .int .i64 3, .int .i64 0, .int .i64 0] 33) := ⟨_, rfl⟩
  rw [← hW] at hx hn ⊢
  clear hW
  have HB40 := Lib.hid (HB39.out.trans (hx.mono HB39.out.size))
  have HA40 := Lib.hid (vec_step HA39.out hx)
  have HM40 := Lib.hid (vec_step HM39.out hx)
  have HT40 := Lib.hid (HT39.out.below hx)
  have HS40 := Lib.hid (vec_step HS39.out hx)
  clear HB39 HA39 HM39 HT39 HS39 hx  
  have HR40 := Lib.hid (hn)
  clear hn
  generalize y49.heap.size = gHR at HR40 ⊢
  have cHM0 := cell_row HM40.out 0 _ rfl
  have cHM1 := cell_row HM40.out 1 _ rfl
  have cHM2 := cell_row HM40.out 2 _ rfl
  have cHA0 := cell_row HA40.out 0 _ rfl
  have cHA1 := cell_row HA40.out 1 _ rfl
  have cHA2 := cell_row HA40.out 2 _ rfl
  have cHA3 := cell_row HA40.out 3 _ rfl
  have cHA4 := cell_row HA40.out 4 _ rfl
  have cHA5 := cell_row HA40.out 5 _ rfl
  go_wp2_with fail
  refine (c_sh2 _ _ HT40.out).mono ?_
  rintro e y51 ⟨rfl, hb⟩
  have HB41 := Lib.hid (HB40.out.trans (hb.mono HB40.out.size))
  have HA41 := Lib.hid (vec_step HA40.out hb)
  have HM41 := Lib.hid (vec_step HM40.out hb)
  have HT41 := Lib.hid (HT40.out.below hb)
  have HS41 := Lib.hid (vec_step HS40.out hb)
  have HR41 := Lib.hid (vec_step HR40.out hb)
  clear HB40 HA40 HM40 HT40 HS40 HR40 hb cHM0 cHM1 cHM2 cHA0 cHA1 cHA2 cHA3 cHA4 cHA5 
  go_upto_region 20 with (fail)
  have hx := ext_alloc y51 (.cells #[.int .i64 0, .int .i64 (-1), .int .i64 0, .int .i64 0] 33)
  have hn := heap_alloc_new y51 (.cells #[.int .i64 0, .int .i64 (-1), .int .i64 0, .int .i64 0] 33)
  obtain ⟨y52, hW⟩ : ∃ ww, ww = y51.alloc (.cells #[.int .i64 0, .int .i64 (-1), .int .i64 0, .int .i64 0] 33) := ⟨_, rfl⟩
  rw [← hW] at hx hn ⊢
  clear hW
  have HB42 := Lib.hid (HB41.out.trans (hx.mono HB41.out.size))
  have HA42 := Lib.hid (vec_step HA41.out hx)
  have HM42 := Lib.hid (vec_step HM41.out hx)
  have HT42 := Lib.hid (HT41.out.below hx)
  have HS42 := Lib.hid (vec_step HS41.out hx)
  have HR42 := Lib.hid (vec_step HR41.out hx)
  clear HB41 HA41 HM41 HT41 HS41 HR41 hx  
  have HU42 := Lib.hid (hn)
  clear hn
  generalize y51.heap.size = gHU at HU42 ⊢
  clear HU42
  have cHM0 := cell_row HM42.out 0 _ rfl
  have cHM1 := cell_row HM42.out 1 _ rfl
  have cHM2 := cell_row HM42.out 2 _ rfl
  have cHA0 := cell_row HA42.out 0 _ rfl
  have cHA1 := cell_row HA42.out 1 _ rfl
  have cHA2 := cell_row HA42.out 2 _ rfl
  have cHA3 := cell_row HA42.out 3 _ rfl
  have cHA4 := cell_row HA42.out 4 _ rfl
  have cHA5 := cell_row HA42.out 5 _ rfl
  go_wp2_with fail
  refine (c_sh4 _ _ HT42.out).mono ?_
  rintro e y53 ⟨rfl, hb⟩
  have HB43 := Lib.hid (HB42.out.trans (hb.mono HB42.out.size))
  have HA43 := Lib.hid (vec_step HA42.out hb)
  have HM43 := Lib.hid (vec_step HM42.out hb)
  have HT43 := Lib.hid (HT42.out.below hb)
  have HS43 := Lib.hid (vec_step HS42.out hb)
  have HR43 := Lib.hid (vec_step HR42.out hb)
  clear HB42 HA42 HM42 HT42 HS42 HR42 hb cHM0 cHM1 cHM2 cHA0 cHA1 cHA2 cHA3 cHA4 cHA5 
  go_upto_region 21 with (fail)
  have hx := ext_alloc y53 (.cells #[.int .i64 0, .int .i64 (-1), .int .i64 0, .int .i64 0] 33)
  have hn := heap_alloc_new y53 (.cells #[.int .i64 0, .int .i64 (-1), .int .i64 0, .int .i64 0] 33)
  obtain ⟨y54, hW⟩ : ∃ ww, ww = y53.alloc (.cells #[.int .i64 0, .int .i64 (-1), .int .i64 0, .int .i64 0] 33) := ⟨_, rfl⟩
  rw [← hW] at hx hn ⊢
  clear hW
  have HB44 := Lib.hid (HB43.out.trans (hx.mono HB43.out.size))
  have HA44 := Lib.hid (vec_step HA43.out hx)
  have HM44 := Lib.hid (vec_step HM43.out hx)
  have HT44 := Lib.hid (HT43.out.below hx)
  have HS44 := Lib.hid (vec_step HS43.out hx)
  have HR44 := Lib.hid (vec_step HR43.out hx)
  clear HB43 HA43 HM43 HT43 HS43 HR43 hx  
  have HU44 := Lib.hid (hn)
  clear hn
  generalize y53.heap.size = gHU at HU44 ⊢
  clear HU44
  have cHM0 := cell_row HM44.out 0 _ rfl
  have cHM1 := cell_row HM44.out 1 _ rfl
  have cHM2 := cell_row HM44.out 2 _ rfl
  have cHA0 := cell_row HA44.out 0 _ rfl
  have cHA1 := cell_row HA44.out 1 _ rfl
  have cHA2 := cell_row HA44.out 2 _ rfl
  have cHA3 := cell_row HA44.out 3 _ rfl
  have cHA4 := cell_row HA44.out 4 _ rfl
  have cHA5 := cell_row HA44.out 5 _ rfl
  go_wp2_with fail
  refine (c_shn _ _ HT44.out).mono ?_
  rintro e y55 ⟨rfl, hb⟩
  have HB45 := Lib.hid (HB44.out.trans (hb.mono HB44.out.size))
  have HA45 := Lib.hid (vec_step HA44.out hb)
  have HM45 := Lib.hid (vec_step HM44.out hb)
  have HT45 := Lib.hid (HT44.out.below hb)
  have HS45 := Lib.hid (vec_step HS44.out hb)
  have HR45 := Lib.hid (vec_step HR44.out hb)
  clear HB44 HA44 HM44 HT44 HS44 HR44 hb cHM0 cHM1 cHM2 cHA0 cHA1 cHA2 cHA3 cHA4 cHA5 
  go_upto_region 22 with (fail)
  have hx := ext_alloc y55 (.cells #[.int .i64 0, .int .i64 (-1), .int .i64 0, .int .i64 0] 33)
  have hn := heap_alloc_new y55 (.cells #[.int .i64 0, .int .i64 (-1), .int .i64 0, .int .i64 0] 33)
  obtain ⟨y56, hW⟩ : ∃ ww, ww = y55.alloc (.cells #[.int .i64 0, .int .i64 (-1), .int .i64 0, .int .i64 0] 33) := ⟨_, rfl⟩
  rw [← hW] at hx hn ⊢
  clear hW
  have HB46 := Lib.hid (HB45.out.trans (hx.mono HB45.out.size))
  have HA46 := Lib.hid (vec_step HA45.out hx)
  have HM46 := Lib.hid (vec_step HM45.out hx)
  have HT46 := Lib.hid (HT45.out.below hx)
  have HS46 := Lib.hid (vec_step HS45.out hx)
  have HR46 := Lib.hid (vec_step HR45.out hx)
  clear HB45 HA45 HM45 HT45 HS45 HR45 hx  
  have HL46 := Lib.hid (hn)
  clear hn
  generalize y55.heap.size = gHL at HL46 ⊢
  have Q13 := Lib.hid (qb (P := Try.prog) (W := y56) (fun w2 hb => c_no1 _ w2 (HT46.out.below hb)))
  have Q14 := Lib.hid (qb (P := Try.prog) (W := y56) (fun w2 hb => c_no2 _ w2 (HT46.out.below hb)))
  have Q15 := Lib.hid (qb (P := Try.prog) (W := y56) (fun w2 hb => c_no3 _ w2 (HT46.out.below hb)))
  have Q16 := Lib.hid (qb (P := Try.prog) (W := y56) (fun w2 hb => c_no4 _ w2 (HT46.out.below hb)))
  have Q17 := Lib.hid (qb (P := Try.prog) (W := y56) (fun w2 hb => c_no5 _ w2 (HT46.out.below hb)))
  have Q18 := Lib.hid (qb (P := Try.prog) (W := y56) (fun w2 hb => c_sc3 w2))
  have Q19 := Lib.hid (qb (P := Try.prog) (W := y56) (fun w2 hb => of_0_0_n1 w2))
  have Q20 := Lib.hid (qb (P := Try.prog) (W := y56) (fun w2 hb => of_0_0_1 w2))
  have fHM0 := fun d os => cell_regrown (cell_row HM46.out 0 _ rfl) d os
  have fHM1 := fun d os => cell_regrown (cell_row HM46.out 1 _ rfl) d os
  have fHM2 := fun d os => cell_regrown (cell_row HM46.out 2 _ rfl) d os
  have fHA0 := fun d os => cell_regrown (cell_row HA46.out 0 _ rfl) d os
  have fHA1 := fun d os => cell_regrown (cell_row HA46.out 1 _ rfl) d os
  have fHA2 := fun d os => cell_regrown (cell_row HA46.out 2 _ rfl) d os
  have fHA3 := fun d os => cell_regrown (cell_row HA46.out 3 _ rfl) d os
  have fHA4 := fun d os => cell_regrown (cell_row HA46.out 4 _ rfl) d os
  have fHA5 := fun d os => cell_regrown (cell_row HA46.out 5 _ rfl) d os
  have fHS0 := fun d os => cell_regrown (cell_row HS46.out 0 _ rfl) d os
  have fHS1 := fun d os => cell_regrown (cell_row HS46.out 1 _ rfl) d os
  have fHS2 := fun d os => cell_regrown (cell_row HS46.out 2 _ rfl) d os
  have fHS3 := fun d os => cell_regrown (cell_row HS46.out 3 _ rfl) d os
  have fHR0 := fun d os => cell_regrown (cell_row HR46.out 0 _ rfl) d os
  have fHR1 := fun d os => cell_regrown (cell_row HR46.out 1 _ rfl) d os
  have fHR2 := fun d os => cell_regrown (cell_row HR46.out 2 _ rfl) d os
  have fHR3 := fun d os => cell_regrown (cell_row HR46.out 3 _ rfl) d os
  have fHL0 := fun d os => cell_regrown (cell_row HL46.out 0 _ rfl) d os
  have fHL1 := fun d os => cell_regrown (cell_row HL46.out 1 _ rfl) d os
  have fHL2 := fun d os => cell_regrown (cell_row HL46.out 2 _ rfl) d os
  have fHL3 := fun d os => cell_regrown (cell_row HL46.out 3 _ rfl) d os
  refine wp_region_quiet_below (by kernel_rfl) (by refine Lex.lexB_of 84 (by as_aux_lemma => kernel_rfl) rfl ?_; (iterate 84 refine Lex.step (by as_aux_lemma => kernel_rfl) (by as_aux_lemma => kernel_rfl) ?_); kernel_rfl) ?_
  simp only [List.append_eq, List.cons_append, List.nil_append, List.append_nil]
  repeat (go_big_quiet_step (first | (with_reducible exact Q13.out _ _) | (with_reducible exact Q14.out _ _) | (with_reducible exact Q15.out _ _) | (with_reducible exact Q16.out _ _) | (with_reducible exact Q17.out _ _) | (with_reducible exact Q18.out _ _) | (with_reducible exact Q19.out _ _) | (with_reducible exact Q20.out _ _)))
  refine wpQuiet_nil ?_
  first | (rintro _ ⟨⟨dq, osq⟩, rfl⟩) | (rintro ⟨dq, osq⟩)
  have hb := below_regrown y56 dq osq
  obtain ⟨y57, hW⟩ : ∃ ww, ww = grow (redrawn y56 dq) osq := ⟨_, rfl⟩
  rw [← hW] at hb ⊢
  clear hW
  have HB47 := Lib.hid (HB46.out.trans (hb.mono HB46.out.size))
  have HA47 := Lib.hid (vec_step HA46.out hb)
  have HM47 := Lib.hid (vec_step HM46.out hb)
  have HT47 := Lib.hid (HT46.out.below hb)
  have HS47 := Lib.hid (vec_step HS46.out hb)
  have HR47 := Lib.hid (vec_step HR46.out hb)
  have HL47 := Lib.hid (vec_step HL46.out hb)
  clear HB46 HA46 HM46 HT46 HS46 HR46 HL46 hb  fHM0 fHM1 fHM2 fHA0 fHA1 fHA2 fHA3 fHA4 fHA5 fHS0 fHS1 fHS2 fHS3 fHR0 fHR1 fHR2 fHR3 fHL0 fHL1 fHL2 fHL3 Q13 Q14 Q15 Q16 Q17 Q18 Q19 Q20
  go_wp2_with fail
  refine (awake_any _).mono ?_
  rintro e y58 ⟨rfl, hb⟩
  have HB48 := Lib.hid (HB47.out.trans (hb.mono HB47.out.size))
  have HA48 := Lib.hid (vec_step HA47.out hb)
  have HM48 := Lib.hid (vec_step HM47.out hb)
  have HT48 := Lib.hid (HT47.out.below hb)
  have HS48 := Lib.hid (vec_step HS47.out hb)
  have HR48 := Lib.hid (vec_step HR47.out hb)
  have HL48 := Lib.hid (vec_step HL47.out hb)
  clear HB47 HA47 HM47 HT47 HS47 HR47 HL47 hb  
  go_wp2_with fail
  go_ret
  exact ⟨rfl, HB48.out⟩

end Go.Proofs.Ytdmmbhcaejojeaa.HitN2
