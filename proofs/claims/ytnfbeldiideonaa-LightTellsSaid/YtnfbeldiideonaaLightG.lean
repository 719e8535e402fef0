/- The walk of the reference's Camera. -/
import Derived.Test.YtnfbeldiideonaaLightD
import Derived.Test.YtnfbeldiideonaaLightR
set_option linter.unusedVariables false
set_option linter.unusedSimpArgs false
namespace Go.Proofs.Ytnfbeldiideonaa.LightG
open Go.RowKit Go.Sort FixM Base Num FixW FixV FixU FixT FixS FixO FixN FixK FixP Qb Qt VecW VecV VecU VecR LightM LightW LightQ LightK Qa LightC LightP LightD LightR

set_option maxRecDepth 100000 in
set_option maxHeartbeats 8000000 in
theorem rcamera_any (s : Scn) (hs : s.ok) (x y dx dy : Int) (hx : In x) (hy : In y) (hdx : In dx) (hdy : In dy) (w : World) : Calls Try.prog 9 #[.agg s.row, .int .i64 x, .int .i64 y, .int .i64 dx, .int .i64 dy] w (VTo (rayV s.eye (cameraF s.w s.h s.eye s.at' s.up s.wide x y dx dy)) w) := by
  have hw1 : In (max s.w 1) := by have := hs.w; unfold In at *; omega
  have hh1 : In (max s.h 1) := by have := hs.h; unfold In at *; omega
  have hwide := hs.wide
  have S2 := fun W => vrunit_any (map2 subF s.at' s.eye) (ok_map2 in_sub _ _) W
  obtain ⟨p, hp⟩ : ∃ p, p = map2 subF s.at' s.eye := ⟨_, rfl⟩
  obtain ⟨f, hf⟩ : ∃ f, f = unitF p := ⟨_, rfl⟩
  rw [← hp] at S2
  rw [← hf] at S2
  have Nx := fun W => qs (P := Try.prog) (W := W) (fun w => (by rw [show p.x = subF s.at'.x s.eye.x by rw [hp]; rfl]; exact rsub_any s.at'.x s.eye.x hs.at'.1.1 hs.at'.1.2 hs.eye.1.1 hs.eye.1.2 w : Calls Try.prog 33 #[.int .i64 s.at'.x, .int .i64 s.eye.x] w (fun e w' => e = .returned (.int .i64 p.x) ∧ w = w')))
  have Ny := fun W => qs (P := Try.prog) (W := W) (fun w => (by rw [show p.y = subF s.at'.y s.eye.y by rw [hp]; rfl]; exact rsub_any s.at'.y s.eye.y hs.at'.2.1.1 hs.at'.2.1.2 hs.eye.2.1.1 hs.eye.2.1.2 w : Calls Try.prog 33 #[.int .i64 s.at'.y, .int .i64 s.eye.y] w (fun e w' => e = .returned (.int .i64 p.y) ∧ w = w')))
  have Nz := fun W => qs (P := Try.prog) (W := W) (fun w => (by rw [show p.z = subF s.at'.z s.eye.z by rw [hp]; rfl]; exact rsub_any s.at'.z s.eye.z hs.at'.2.2.1 hs.at'.2.2.2 hs.eye.2.2.1 hs.eye.2.2.2 w : Calls Try.prog 33 #[.int .i64 s.at'.z, .int .i64 s.eye.z] w (fun e w' => e = .returned (.int .i64 p.z) ∧ w = w')))
  have T0 := fun W => qb (P := Try.prog) (W := W) (fun w2 _ => S2 w2)
  clear S2
  have okf : f.ok := by rw [hf]; exact ok_unit _
  have S3 := fun W => vrcross_any f s.up okf hs.up W
  obtain ⟨q, hq⟩ : ∃ q, q = crossF f s.up := ⟨_, rfl⟩
  rw [← hq] at S3
  have okq : q.ok := by rw [hq]; exact ok_cross _ _
  have S4 := fun W => vrunit_any q okq W
  obtain ⟨r, hr⟩ : ∃ r, r = unitF q := ⟨_, rfl⟩
  rw [← hr] at S4
  have okr : r.ok := by rw [hr]; exact ok_unit _
  have S5 := fun W => vrcross_any r f okr okf W
  obtain ⟨u, hu⟩ : ∃ u, u = crossF r f := ⟨_, rfl⟩
  rw [← hu] at S5
  have oku : u.ok := by rw [hu]; exact ok_cross _ _
  have O1 := fun W => rof_any (max s.w 1) hw1.1 hw1.2 W
  have O2 := fun W => rof_any (max s.h 1) hh1.1 hh1.2 W
  have O3 := fun W => rof_any x hx.1 hx.2 W
  have O4 := fun W => rof_any y hy.1 hy.2 W
  have h1 := in_ofF (max s.w 1)
  have h2 := in_ofF (max s.h 1)
  have h3 := in_ofF x
  have h4 := in_ofF y
  obtain ⟨sw, hsw⟩ : ∃ c, c = ofF (max s.w 1) := ⟨_, rfl⟩
  obtain ⟨sh, hsh⟩ : ∃ c, c = ofF (max s.h 1) := ⟨_, rfl⟩
  obtain ⟨ox, hox⟩ : ∃ c, c = ofF x := ⟨_, rfl⟩
  obtain ⟨oy, hoy⟩ : ∃ c, c = ofF y := ⟨_, rfl⟩
  rw [← hsw] at O1 h1
  rw [← hsh] at O2 h2
  rw [← hox] at O3 h3
  rw [← hoy] at O4 h4
  have Q1 := fun W => qs (P := Try.prog) (W := W) (fun w => O1 w)
  have Q2 := fun W => qs (P := Try.prog) (W := W) (fun w => O2 w)

  have A1 := fun W => radd_any ox dx h3.1 h3.2 hdx.1 hdx.2 W
  obtain ⟨ax1, hax1⟩ : ∃ c, c = addF ox dx := ⟨_, rfl⟩
  rw [← hax1] at A1
  have iax1 : In ax1 := by rw [hax1]; exact in_add _ _
  have A2 := fun W => radd_any oy dy h4.1 h4.2 hdy.1 hdy.2 W
  obtain ⟨ay1, hay1⟩ : ∃ c, c = addF oy dy := ⟨_, rfl⟩
  rw [← hay1] at A2
  have iay1 : In ay1 := by rw [hay1]; exact in_add _ _
  have D1 := fun W => rdiv_any ax1 sw iax1.1 iax1.2 h1.1 h1.2 W
  obtain ⟨a, ha⟩ : ∃ c, c = divF ax1 sw := ⟨_, rfl⟩
  rw [← ha] at D1
  have ia : In a := by rw [ha]; exact in_div _ _
  have D2 := fun W => rdiv_any ay1 sh iay1.1 iay1.2 h2.1 h2.2 W
  obtain ⟨b, hb⟩ : ∃ c, c = divF ay1 sh := ⟨_, rfl⟩
  rw [← hb] at D2
  have ib : In b := by rw [hb]; exact in_div _ _
  have A3 := fun W => radd_any a a ia.1 ia.2 ia.1 ia.2 W
  obtain ⟨aa, haa⟩ : ∃ c, c = addF a a := ⟨_, rfl⟩
  rw [← haa] at A3
  have iaa : In aa := by rw [haa]; exact in_add _ _
  have hone : In 4294967296 := by unfold In; omega
  have B1 := fun W => rsub_any aa 4294967296 iaa.1 iaa.2 hone.1 hone.2 W
  obtain ⟨am, ham⟩ : ∃ c, c = subF aa 4294967296 := ⟨_, rfl⟩
  rw [← ham] at B1
  have iam : In am := by rw [ham]; exact in_sub _ _
  have M1 := fun W => rmul_any am s.wide iam.1 iam.2 hwide.1 hwide.2 W
  obtain ⟨px, hpx⟩ : ∃ c, c = mulF am s.wide := ⟨_, rfl⟩
  rw [← hpx] at M1
  have ipx : In px := by rw [hpx]; exact in_mul _ _
  have M2 := fun W => rmul_any s.wide sh hwide.1 hwide.2 h2.1 h2.2 W
  obtain ⟨wh, hwh⟩ : ∃ c, c = mulF s.wide sh := ⟨_, rfl⟩
  rw [← hwh] at M2
  have iwh : In wh := by rw [hwh]; exact in_mul _ _
  have D3 := fun W => rdiv_any wh sw iwh.1 iwh.2 h1.1 h1.2 W
  obtain ⟨tall, htall⟩ : ∃ c, c = divF wh sw := ⟨_, rfl⟩
  rw [← htall] at D3
  have itall : In tall := by rw [htall]; exact in_div _ _
  have A4 := fun W => radd_any b b ib.1 ib.2 ib.1 ib.2 W
  obtain ⟨bb, hbb⟩ : ∃ c, c = addF b b := ⟨_, rfl⟩
  rw [← hbb] at A4
  have ibb : In bb := by rw [hbb]; exact in_add _ _
  have B2 := fun W => rsub_any 4294967296 bb hone.1 hone.2 ibb.1 ibb.2 W
  obtain ⟨bm, hbm⟩ : ∃ c, c = subF 4294967296 bb := ⟨_, rfl⟩
  rw [← hbm] at B2
  have ibm : In bm := by rw [hbm]; exact in_sub _ _
  have M3 := fun W => rmul_any bm tall ibm.1 ibm.2 itall.1 itall.2 W
  obtain ⟨py, hpy⟩ : ∃ c, c = mulF bm tall := ⟨_, rfl⟩
  rw [← hpy] at M3
  have ipy : In py := by rw [hpy]; exact in_mul _ _
  have Q3 := fun W => qs (P := Try.prog) (W := W) (fun w => A3 w)
  have Q4 := fun W => qs (P := Try.prog) (W := W) (fun w => B1 w)
  have Q5 := fun W => qs (P := Try.prog) (W := W) (fun w => M1 w)
  have T1 := fun W => qb (P := Try.prog) (W := W) (fun w2 _ => lscale_any r px ipx okr w2)
  have T2 := fun W => qb (P := Try.prog) (W := W) (fun w2 _ => lscale_any u py ipy oku w2)
  obtain ⟨t1, ht1⟩ : ∃ t, t = map1 (fun x => mulF x px) r := ⟨_, rfl⟩
  obtain ⟨t2, ht2⟩ : ∃ t, t = map1 (fun x => mulF x py) u := ⟨_, rfl⟩
  rw [← ht1] at T1
  rw [← ht2] at T2
  have okt1 : t1.ok := by rw [ht1]; exact ok_map1 (fun x => in_mul _ _) _
  have okt2 : t2.ok := by rw [ht2]; exact ok_map1 (fun x => in_mul _ _) _
  have T3 := fun W => qb (P := Try.prog) (W := W) (fun w2 _ => ladd_any t1 t2 okt1 okt2 w2)
  obtain ⟨t3, ht3⟩ : ∃ t, t = map2 addF t1 t2 := ⟨_, rfl⟩
  rw [← ht3] at T3
  have okt3 : t3.ok := by rw [ht3]; exact ok_map2 in_add _ _
  have T4 := fun W => qb (P := Try.prog) (W := W) (fun w2 _ => ladd_any f t3 okf okt3 w2)
  obtain ⟨t4, ht4⟩ : ∃ t, t = map2 addF f t3 := ⟨_, rfl⟩
  rw [← ht4] at T4
  have okt4 : t4.ok := by rw [ht4]; exact ok_map2 in_add _ _
  have T5 := fun W => qb (P := Try.prog) (W := W) (fun w2 _ => vrunit_any t4 okt4 w2)
  have hd : cameraF s.w s.h s.eye s.at' s.up s.wide x y dx dy = unitF t4 := by
    rw [ht4, ht3, ht2, ht1, hpy, hbm, hbb, htall, hwh, hpx, ham, haa, hb, ha, hay1, hax1, hoy, hox, hsh, hsw, hu, hr, hq, hf, hp]; rfl
  obtain ⟨d, hdd⟩ : ∃ d, d = unitF t4 := ⟨_, rfl⟩
  rw [hd]
  rw [← hdd] at T5 ⊢
  have D1' := fun W => same_below (D1 W)
  have D2' := fun W => same_below (D2 W)
  have D3' := fun W => same_below (D3 W)
  clear hd hdd ht1 ht2 ht3 ht4 hpy hbm hbb htall hwh hpx ham haa hb ha hay1 hax1 hoy hox hsh hsw hu hr hq hf hp okt1 okt2 okt3 okt4 oku okr okq okf hw1 hh1 hwide h1 h2 h3 h4 iax1 iay1 ia ib iaa iam ipx iwh itall ibb ibm ipy hone hx hy hdx hdy D1 D2 D3 O1 O2 A3 B1 M1 hs
  obtain ⟨sW, sH, sm, bo, seed, ⟨ex, ey, ez⟩, ⟨ax, ay, az⟩, ⟨ux, uy, uz⟩, wide, sky⟩ := s
  obtain ⟨qx, qy, qz⟩ := q
  obtain ⟨fx, fy, fz⟩ := f
  obtain ⟨rx, ry, rz⟩ := r
  obtain ⟨vx, vy, vz⟩ := u
  obtain ⟨kx, ky, kz⟩ := p
  obtain ⟨lx, ly, lz⟩ := t1
  obtain ⟨mx, my, mz⟩ := t2
  obtain ⟨nx, ny, nz⟩ := t3
  obtain ⟨ix, iy, iz⟩ := t4
  obtain ⟨jx, jy, jz⟩ := d
  dsimp only [Scn.row, vecV] at *
  obtain ⟨s1, hs1⟩ : ∃ v, v = sky.getD 0 undef := ⟨_, rfl⟩
  obtain ⟨s2, hs2⟩ : ∃ v, v = sky.getD 1 undef := ⟨_, rfl⟩
  obtain ⟨s3, hs3⟩ : ∃ v, v = sky.getD 2 undef := ⟨_, rfl⟩
  obtain ⟨s4, hs4⟩ : ∃ v, v = sky.getD 3 undef := ⟨_, rfl⟩
  obtain ⟨s5, hs5⟩ : ∃ v, v = sky.getD 4 undef := ⟨_, rfl⟩
  obtain ⟨s6, hs6⟩ : ∃ v, v = sky.getD 5 undef := ⟨_, rfl⟩
  rw [← hs1, ← hs2, ← hs3, ← hs4, ← hs5, ← hs6]
  clear hs1 hs2 hs3 hs4 hs5 hs6 sky
  obtain ⟨row, hrow⟩ : ∃ row : Array Value, row = #[.int .i64 sW, .int .i64 sH, sm, bo, seed, .int .i64 ex, .int .i64 ey, .int .i64 ez, .int .i64 ax, .int .i64 ay, .int .i64 az, .int .i64 ux, .int .i64 uy, .int .i64 uz, .int .i64 wide, s1, s2, s3, s4, s5, s6] := ⟨_, rfl⟩
  obtain ⟨W, hW⟩ : ∃ W, W = (w.alloc (.cells #[.int .i64 sW, .int .i64 sH, sm, bo, seed, .int .i64 ex, .int .i64 ey, .int .i64 ez, .int .i64 ax, .int .i64 ay, .int .i64 az, .int .i64 ux, .int .i64 uy, .int .i64 uz, .int .i64 wide, s1, s2, s3, s4, s5, s6] 34)).alloc (.cells zero6 41) := ⟨_, rfl⟩
  have K := Lib.hid (show Cam w row W from ⟨by rw [hW, hrow]; exact alloc2_0 _ _ _, by rw [hW]; exact alloc2_1 _ _ _, by rw [hW]; exact alloc2_below _ _ _⟩)
  have w0 := cell_all K.out.h0 0 (.int .i64 sW) (by rw [hrow]; rfl)
  have w1 := cell_all K.out.h0 1 (.int .i64 sH) (by rw [hrow]; rfl)
  have k5 : row[5]? = some (.int .i64 ex) := by rw [hrow]; rfl
  have k6 : row[6]? = some (.int .i64 ey) := by rw [hrow]; rfl
  have k7 : row[7]? = some (.int .i64 ez) := by rw [hrow]; rfl
  have k8 : row[8]? = some (.int .i64 ax) := by rw [hrow]; rfl
  have k9 : row[9]? = some (.int .i64 ay) := by rw [hrow]; rfl
  have k10 : row[10]? = some (.int .i64 az) := by rw [hrow]; rfl
  have k11 : row[11]? = some (.int .i64 ux) := by rw [hrow]; rfl
  have k12 : row[12]? = some (.int .i64 uy) := by rw [hrow]; rfl
  have k13 : row[13]? = some (.int .i64 uz) := by rw [hrow]; rfl
  have k14 : row[14]? = some (.int .i64 wide) := by rw [hrow]; rfl
  clear hrow
  have KK5 := Lib.hid k5
  have KK6 := Lib.hid k6
  have KK7 := Lib.hid k7
  have KK8 := Lib.hid k8
  have KK9 := Lib.hid k9
  have KK10 := Lib.hid k10
  have KK11 := Lib.hid k11
  have KK12 := Lib.hid k12
  have KK13 := Lib.hid k13
  have KK14 := Lib.hid k14
  clear k5 k6 k7 k8 k9 k10 k11 k12 k13 k14
  have HNx := Lib.hid Nx
  have HNy := Lib.hid Ny
  have HNz := Lib.hid Nz
  have HT0 := Lib.hid T0
  have HS3 := Lib.hid S3
  have HS4 := Lib.hid S4
  have HS5 := Lib.hid S5
  have HO3 := Lib.hid O3
  have HO4 := Lib.hid O4
  have HA1 := Lib.hid A1
  have HA2 := Lib.hid A2
  have HM2 := Lib.hid M2
  have HA4 := Lib.hid A4
  have HB2 := Lib.hid B2
  have HM3 := Lib.hid M3
  have HQ1 := Lib.hid Q1
  have HQ2 := Lib.hid Q2
  have HQ3 := Lib.hid Q3
  have HQ4 := Lib.hid Q4
  have HQ5 := Lib.hid Q5
  have HT1 := Lib.hid T1
  have HT2 := Lib.hid T2
  have HT3 := Lib.hid T3
  have HT4 := Lib.hid T4
  have HT5 := Lib.hid T5
  have HD1 := Lib.hid D1'
  have HD2 := Lib.hid D2'
  have HD3 := Lib.hid D3'
  have HWW := Lib.hid hW
  clear hW D1' D2' D3' Nx Ny Nz T0 S3 S4 S5 O3 O4 A1 A2 M2 A4 B2 M3 Q1 Q2 Q3 Q4 Q5 T1 T2 T3 T4 T5
  go_enter Try.func9, Try.ntmps9
  go_upto_region 1 with (fail)
  rw [← HWW.out]
  clear HWW
  refine wp_region_quiet_below (by kernel_rfl) (by kernel_rfl) ?_
  repeat (go_big_quiet_step (first | (with_reducible exact HQ1.out _ _ _) | (with_reducible exact HQ2.out _ _ _)))
  refine wpQuiet_nil ?_
  rintro _ ⟨⟨dq, osq⟩, rfl⟩
  clear w0 w1
  have K1 := Lib.hid (K.out.step (below_regrown W dq osq))
  generalize grow (redrawn W dq) osq = W1 at *
  clear K HQ1 HQ2
  go_upto_region 2 with (fail)
  refine wp_region_allocs 24 [0, 1, 2, 3, 4, 5, 6, 7, 8, 9, 10, 11, 12, 13, 14, 15, 16, 17, 18, 19, 20, 21, 22] [(23, 13, box3 ⟨0, 0, 0⟩)] (by kernel_rfl) (by kernel_rfl) (by
    intro x hx
    simp only [List.mem_cons, List.not_mem_nil, or_false] at hx
    rcases hx with rfl
    exact ⟨by decide, _, rfl, ⟨⟨_, rfl, alloc_vec⟩, rfl, rfl⟩⟩) (by decide) (by decide) ?_
  refine Walk.step (A := ?A101) (o := ?o101) ?e101 ?w101 29 ?d101 (by simp) ?h101 ?n101
  case e101 => simp only [List.getElem?_toArray, List.getElem?_cons_succ, List.getElem?_cons_zero]; exact rfl
  case w101 => exact rfl
  case d101 => exact rfl
  case h101 =>
    intro W9 hW9
    go_big_quiet_op
    exact rfl
  refine Walk.step (A := ?A102) (o := ?o102) ?e102 ?w102 30 ?d102 (by simp) ?h102 ?n102
  case e102 => simp only [List.getElem?_toArray, List.getElem?_cons_succ, List.getElem?_cons_zero]; exact rfl
  case w102 => exact rfl
  case d102 => exact rfl
  case h102 =>
    intro W9 hW9
    go_big_quiet_op
    exact rfl
  refine Walk.step (A := ?A103) (o := ?o103) ?e103 ?w103 31 ?d103 (by simp) ?h103 ?n103
  case e103 => simp only [List.getElem?_toArray, List.getElem?_cons_succ, List.getElem?_cons_zero]; exact rfl
  case w103 => exact rfl
  case d103 => exact rfl
  case h103 =>
    intro W9 hW9
    have e0 := cell_all (vec_step K1.out.h0 hW9) 8 _ KK8.out
    go_big_quiet_op
    exact rfl
  refine Walk.step (A := ?A104) (o := ?o104) ?e104 ?w104 32 ?d104 (by simp) ?h104 ?n104
  case e104 => simp only [List.getElem?_toArray, List.getElem?_cons_succ, List.getElem?_cons_zero]; exact rfl
  case w104 => exact rfl
  case d104 => exact rfl
  case h104 =>
    intro W9 hW9
    go_big_quiet_op
    exact rfl
  refine Walk.step (A := ?A105) (o := ?o105) ?e105 ?w105 33 ?d105 (by simp) ?h105 ?n105
  case e105 => simp only [List.getElem?_toArray, List.getElem?_cons_succ, List.getElem?_cons_zero]; exact rfl
  case w105 => exact rfl
  case d105 => exact rfl
  case h105 =>
    intro W9 hW9
    go_big_quiet_op
    exact rfl
  refine Walk.step (A := ?A106) (o := ?o106) ?e106 ?w106 34 ?d106 (by simp) ?h106 ?n106
  case e106 => simp only [List.getElem?_toArray, List.getElem?_cons_succ, List.getElem?_cons_zero]; exact rfl
  case w106 => exact rfl
  case d106 => exact rfl
  case h106 =>
    intro W9 hW9
    have e0 := cell_all (vec_step K1.out.h0 hW9) 5 _ KK5.out
    go_big_quiet_op
    exact rfl
  refine Walk.step (A := ?A107) (o := ?o107) ?e107 ?w107 35 ?d107 (by simp) ?h107 ?n107
  case e107 => simp only [List.getElem?_toArray, List.getElem?_cons_succ, List.getElem?_cons_zero]; exact rfl
  case w107 => exact rfl
  case d107 => exact rfl
  case h107 =>
    intro W9 hW9
    go_big_quiet_op
    apply Exists.intro
    refine ⟨fun _ => ?_, ?_⟩
    · with_reducible exact HNx.out _ _ _
    · exact rfl
  refine Walk.step (A := ?A108) (o := ?o108) ?e108 ?w108 36 ?d108 (by simp) ?h108 ?n108
  case e108 => simp only [List.getElem?_toArray, List.getElem?_cons_succ, List.getElem?_cons_zero]; exact rfl
  case w108 => exact rfl
  case d108 => exact rfl
  case h108 =>
    intro W9 hW9
    go_big_quiet_op
    exact rfl
  refine Walk.step (A := ?A109) (o := ?o109) ?e109 ?w109 37 ?d109 (by simp) ?h109 ?n109
  case e109 => simp only [List.getElem?_toArray, List.getElem?_cons_succ, List.getElem?_cons_zero]; exact rfl
  case w109 => exact rfl
  case d109 => exact rfl
  case h109 =>
    intro W9 hW9
    go_big_quiet_op
    exact rfl
  refine Walk.step (A := ?A110) (o := ?o110) ?e110 ?w110 38 ?d110 (by simp) ?h110 ?n110
  case e110 => simp only [List.getElem?_toArray, List.getElem?_cons_succ, List.getElem?_cons_zero]; exact rfl
  case w110 => exact rfl
  case d110 => exact rfl
  case h110 =>
    intro W9 hW9
    have e0 := cell_all (vec_step K1.out.h0 hW9) 9 _ KK9.out
    go_big_quiet_op
    exact rfl
  refine Walk.step (A := ?A111) (o := ?o111) ?e111 ?w111 39 ?d111 (by simp) ?h111 ?n111
  case e111 => simp only [List.getElem?_toArray, List.getElem?_cons_succ, List.getElem?_cons_zero]; exact rfl
  case w111 => exact rfl
  case d111 => exact rfl
  case h111 =>
    intro W9 hW9
    go_big_quiet_op
    exact rfl
  refine Walk.step (A := ?A112) (o := ?o112) ?e112 ?w112 40 ?d112 (by simp) ?h112 ?n112
  case e112 => simp only [List.getElem?_toArray, List.getElem?_cons_succ, List.getElem?_cons_zero]; exact rfl
  case w112 => exact rfl
  case d112 => exact rfl
  case h112 =>
    intro W9 hW9
    go_big_quiet_op
    exact rfl
  refine Walk.step (A := ?A113) (o := ?o113) ?e113 ?w113 41 ?d113 (by simp) ?h113 ?n113
  case e113 => simp only [List.getElem?_toArray, List.getElem?_cons_succ, List.getElem?_cons_zero]; exact rfl
  case w113 => exact rfl
  case d113 => exact rfl
  case h113 =>
    intro W9 hW9
    have e0 := cell_all (vec_step K1.out.h0 hW9) 6 _ KK6.out
    go_big_quiet_op
    exact rfl
  refine Walk.step (A := ?A114) (o := ?o114) ?e114 ?w114 42 ?d114 (by simp) ?h114 ?n114
  case e114 => simp only [List.getElem?_toArray, List.getElem?_cons_succ, List.getElem?_cons_zero]; exact rfl
  case w114 => exact rfl
  case d114 => exact rfl
  case h114 =>
    intro W9 hW9
    go_big_quiet_op
    apply Exists.intro
    refine ⟨fun _ => ?_, ?_⟩
    · with_reducible exact HNy.out _ _ _
    · exact rfl
  refine Walk.step (A := ?A115) (o := ?o115) ?e115 ?w115 43 ?d115 (by simp) ?h115 ?n115
  case e115 => simp only [List.getElem?_toArray, List.getElem?_cons_succ, List.getElem?_cons_zero]; exact rfl
  case w115 => exact rfl
  case d115 => exact rfl
  case h115 =>
    intro W9 hW9
    go_big_quiet_op
    exact rfl
  refine Walk.step (A := ?A116) (o := ?o116) ?e116 ?w116 44 ?d116 (by simp) ?h116 ?n116
  case e116 => simp only [List.getElem?_toArray, List.getElem?_cons_succ, List.getElem?_cons_zero]; exact rfl
  case w116 => exact rfl
  case d116 => exact rfl
  case h116 =>
    intro W9 hW9
    go_big_quiet_op
    exact rfl
  refine Walk.step (A := ?A117) (o := ?o117) ?e117 ?w117 45 ?d117 (by simp) ?h117 ?n117
  case e117 => simp only [List.getElem?_toArray, List.getElem?_cons_succ, List.getElem?_cons_zero]; exact rfl
  case w117 => exact rfl
  case d117 => exact rfl
  case h117 =>
    intro W9 hW9
    have e0 := cell_all (vec_step K1.out.h0 hW9) 10 _ KK10.out
    go_big_quiet_op
    exact rfl
  refine Walk.step (A := ?A118) (o := ?o118) ?e118 ?w118 46 ?d118 (by simp) ?h118 ?n118
  case e118 => simp only [List.getElem?_toArray, List.getElem?_cons_succ, List.getElem?_cons_zero]; exact rfl
  case w118 => exact rfl
  case d118 => exact rfl
  case h118 =>
    intro W9 hW9
    go_big_quiet_op
    exact rfl
  refine Walk.step (A := ?A119) (o := ?o119) ?e119 ?w119 47 ?d119 (by simp) ?h119 ?n119
  case e119 => simp only [List.getElem?_toArray, List.getElem?_cons_succ, List.getElem?_cons_zero]; exact rfl
  case w119 => exact rfl
  case d119 => exact rfl
  case h119 =>
    intro W9 hW9
    go_big_quiet_op
    exact rfl
  refine Walk.step (A := ?A120) (o := ?o120) ?e120 ?w120 48 ?d120 (by simp) ?h120 ?n120
  case e120 => simp only [List.getElem?_toArray, List.getElem?_cons_succ, List.getElem?_cons_zero]; exact rfl
  case w120 => exact rfl
  case d120 => exact rfl
  case h120 =>
    intro W9 hW9
    have e0 := cell_all (vec_step K1.out.h0 hW9) 7 _ KK7.out
    go_big_quiet_op
    exact rfl
  refine Walk.step (A := ?A121) (o := ?o121) ?e121 ?w121 49 ?d121 (by simp) ?h121 ?n121
  case e121 => simp only [List.getElem?_toArray, List.getElem?_cons_succ, List.getElem?_cons_zero]; exact rfl
  case w121 => exact rfl
  case d121 => exact rfl
  case h121 =>
    intro W9 hW9
    go_big_quiet_op
    apply Exists.intro
    refine ⟨fun _ => ?_, ?_⟩
    · with_reducible exact HNz.out _ _ _
    · exact rfl
  refine Walk.step (A := ?A122) (o := ?o122) ?e122 ?w122 50 ?d122 (by simp) ?h122 ?n122
  case e122 => simp only [List.getElem?_toArray, List.getElem?_cons_succ, List.getElem?_cons_zero]; exact rfl
  case w122 => exact rfl
  case d122 => exact rfl
  case h122 =>
    intro W9 hW9
    go_big_quiet_op
    exact rfl
  refine Walk.step (A := ?A123) (o := ?o123) ?e123 ?w123 51 ?d123 (by simp) ?h123 ?n123
  case e123 => simp only [List.getElem?_toArray, List.getElem?_cons_succ, List.getElem?_cons_zero]; exact rfl
  case w123 => exact rfl
  case d123 => exact rfl
  case h123 =>
    intro W9 hW9
    go_big_quiet_op
    apply Exists.intro
    refine ⟨fun _ => ?_, ?_⟩
    · with_reducible exact HT0.out _ _ _
    · exact rfl
  simp only [Walk, All]
  intro g13 hg hf w2 hD2
  have k13 : w2.heap[g13]? = some (box3 ⟨0, 0, 0⟩) := hD2.2 (g13, box3 ⟨0, 0, 0⟩) (by simp)
  have K3 := Lib.hid (K1.out.step hD2.1)
  clear hf hD2
  simp only [List.drop_succ_cons, List.drop_zero, Act.put, List.setIfInBounds_toArray, List.set_cons_succ, List.set_cons_zero, ptr]
  refine store_vec rfl (.tmp 13) (.tmp 51) rfl rfl g13 fx fy fz rfl rfl _ _ _ k13 ?_
  have F4 := Lib.hid (setRow_heap w2 g13 _ #[.int .i64 fx, .int .i64 fy, .int .i64 fz] _ _ k13)
  have hgs : w.heap.size < g13 ∧ w.heap.size + 1 < g13 := by have := lt_of_heap K1.out.h1; omega
  have K4 := Lib.hid (show Cam w row (w2.setRow g13 #[.int .i64 fx, .int .i64 fy, .int .i64 fz]) from ⟨(setRow_other _ _ _ _ (by omega)).trans K3.out.h0, (setRow_other _ _ _ _ (by omega)).trans K3.out.h1, below_setRow K3.out.hb (by omega) _⟩)
  clear k13 hg hgs K3 K1
  generalize w2.setRow g13 _ = W4 at *
  clear w2 W1 HNx HNy HNz HT0
  go_upto_region 3 with (fail)
  obtain ⟨f0, f1, f2⟩ := cells_now F4.out
  have c11 := cell_row K4.out.h0 11 _ KK11.out
  have c12 := cell_row K4.out.h0 12 _ KK12.out
  have c13 := cell_row K4.out.h0 13 _ KK13.out
  go_wp2_with fail
  clear c11 c12 c13 f0 f1 f2
  refine (HS3.out _).mono ?_
  rintro e W5 ⟨rfl, hb5⟩
  have K5 := Lib.hid (K4.out.step hb5)
  have F5 := Lib.hid (vec_step F4.out hb5)
  clear K4 F4 hb5 HS3 W4
  go_wp2_with fail
  refine (HS4.out _).mono ?_
  rintro e W6 ⟨rfl, hb6⟩
  have K6 := Lib.hid (K5.out.step hb6)
  have F6 := Lib.hid (vec_step F5.out hb6)
  clear K5 F5 hb6 HS4 W5
  obtain ⟨W7, hW7⟩ : ∃ W, W = (W6.alloc (box3 ⟨0, 0, 0⟩)).setRow W6.heap.size #[.int .i64 rx, .int .i64 ry, .int .i64 rz] := ⟨_, rfl⟩
  have R7 := Lib.hid (show W7.heap[W6.heap.size]? = some (box3 ⟨rx, ry, rz⟩) by rw [hW7]; exact put3_row _ _ _ _)
  have hxW7 : Below W6.heap.size W6 W7 := by rw [hW7]; exact put3_ext _ _ _ _
  have K7 := Lib.hid (K6.out.step hxW7)
  have F7 := Lib.hid (vec_step F6.out hxW7)
  have HHW7 := Lib.hid hW7
  clear hW7 hxW7 K6 F6
  go_upto_region 4 with (with_reducible refine store_vec rfl (.tmp 14) (.tmp 56) rfl rfl W6.heap.size rx ry rz rfl rfl _ _ _ (heap_alloc_new _ _) ?_)
  rw [← HHW7.out]
  clear HHW7
  generalize W6.heap.size = g14 at *
  clear W6
  obtain ⟨f0, f1, f2⟩ := cells_now F7.out
  obtain ⟨r0, r1, r2⟩ := cells_now R7.out
  go_wp2_with fail
  clear r0 r1 r2 f0 f1 f2
  refine (HS5.out _).mono ?_
  rintro e W8 ⟨rfl, hb8⟩
  have K8 := Lib.hid (K7.out.step hb8)
  have F8 := Lib.hid (vec_step F7.out hb8)
  have R8 := Lib.hid (vec_step R7.out hb8)
  clear K7 F7 R7 hb8 HS5 W7
  obtain ⟨W9, hW9⟩ : ∃ W, W = (W8.alloc (box3 ⟨0, 0, 0⟩)).setRow W8.heap.size #[.int .i64 vx, .int .i64 vy, .int .i64 vz] := ⟨_, rfl⟩
  have U9 := Lib.hid (show W9.heap[W8.heap.size]? = some (box3 ⟨vx, vy, vz⟩) by rw [hW9]; exact put3_row _ _ _ _)
  have hxW9 : Below W8.heap.size W8 W9 := by rw [hW9]; exact put3_ext _ _ _ _
  have K9 := Lib.hid (K8.out.step hxW9)
  have F9 := Lib.hid (vec_step F8.out hxW9)
  have R9 := Lib.hid (vec_step R8.out hxW9)
  have HHW9 := Lib.hid hW9
  clear hW9 hxW9 K8 F8 R8
  go_upto_region 5 with (with_reducible refine store_vec rfl (.tmp 15) (.tmp 59) rfl rfl W8.heap.size vx vy vz rfl rfl _ _ _ (heap_alloc_new _ _) ?_)
  rw [← HHW9.out]
  clear HHW9
  generalize W8.heap.size = g15 at *
  clear W8
  go_wp2_with fail
  refine (HO3.out _).mono ?_
  rintro e w' ⟨rfl, rfl⟩
  go_wp2_with fail
  refine (HA1.out _).mono ?_
  rintro e w' ⟨rfl, rfl⟩
  go_wp2_with fail
  refine (HD1.out _).mono ?_
  rintro e W10 ⟨rfl, hb10⟩
  have K10 := Lib.hid (K9.out.step hb10)
  have F10 := Lib.hid (vec_step F9.out hb10)
  have R10 := Lib.hid (vec_step R9.out hb10)
  have U10 := Lib.hid (vec_step U9.out hb10)
  clear K9 F9 R9 U9 hb10 HO3 HA1 HD1 W9
  go_wp2_with fail
  refine (HO4.out _).mono ?_
  rintro e w' ⟨rfl, rfl⟩
  go_wp2_with fail
  refine (HA2.out _).mono ?_
  rintro e w' ⟨rfl, rfl⟩
  go_wp2_with fail
  refine (HD2.out _).mono ?_
  rintro e W11 ⟨rfl, hb11⟩
  have K11 := Lib.hid (K10.out.step hb11)
  have F11 := Lib.hid (vec_step F10.out hb11)
  have R11 := Lib.hid (vec_step R10.out hb11)
  have U11 := Lib.hid (vec_step U10.out hb11)
  clear K10 F10 R10 U10 hb11 HO4 HA2 HD2 W10
  go_upto_region 7 with (fail)
  have w14 := cell_all K11.out.h0 14 _ KK14.out
  refine wp_region_quiet_below (by kernel_rfl) (by kernel_rfl) ?_
  repeat (go_big_quiet_step (first | (with_reducible exact HQ3.out _ _ _) | (with_reducible exact HQ4.out _ _ _) | (with_reducible exact HQ5.out _ _ _)))
  refine wpQuiet_nil ?_
  rintro _ ⟨⟨dq, osq⟩, rfl⟩
  have hb12 := below_regrown W11 dq osq
  have K12 := Lib.hid (K11.out.step hb12)
  have F12 := Lib.hid (vec_step F11.out hb12)
  have R12 := Lib.hid (vec_step R11.out hb12)
  have U12 := Lib.hid (vec_step U11.out hb12)
  clear K11 F11 R11 U11 hb12 w14
  generalize grow (redrawn W11 dq) osq = W12 at *
  clear HQ3 HQ4 HQ5 W11
  have c14 := cell_row K12.out.h0 14 _ KK14.out
  go_wp2_with fail
  clear c14
  refine (HM2.out _).mono ?_
  rintro e w' ⟨rfl, rfl⟩
  go_wp2_with fail
  refine (HD3.out _).mono ?_
  rintro e W13 ⟨rfl, hb13⟩
  have K13 := Lib.hid (K12.out.step hb13)
  have F13 := Lib.hid (vec_step F12.out hb13)
  have R13 := Lib.hid (vec_step R12.out hb13)
  have U13 := Lib.hid (vec_step U12.out hb13)
  clear K12 F12 R12 U12 hb13 HM2 HD3 W12
  go_wp2_with fail
  refine (HA4.out _).mono ?_
  rintro e w' ⟨rfl, rfl⟩
  go_wp2_with fail
  refine (HB2.out _).mono ?_
  rintro e w' ⟨rfl, rfl⟩
  go_wp2_with fail
  refine (HM3.out _).mono ?_
  rintro e w' ⟨rfl, rfl⟩
  clear HA4 HB2 HM3
  go_upto_region 10 with (fail)
  obtain ⟨f0, f1, f2⟩ := cells3 F13.out
  obtain ⟨r0, r1, r2⟩ := cells3 R13.out
  obtain ⟨u0, u1, u2⟩ := cells3 U13.out
  have c5 := cell_all K13.out.h0 5 _ KK5.out
  have c6 := cell_all K13.out.h0 6 _ KK6.out
  have c7 := cell_all K13.out.h0 7 _ KK7.out
  have HR := Lib.hid K13.out.h1
  have HB := Lib.hid K13.out.hb
  clear K13 F13 R13 U13
  refine wp_region_below_tail 13 (by kernel_rfl) (by kernel_rfl) ?_
  simp only [List.take_succ_cons, List.take_zero, List.drop_succ_cons, List.drop_zero]
  repeat (go_big_quiet_step (first | (with_reducible exact HT1.out _ _ _) | (with_reducible exact HT2.out _ _ _) | (with_reducible exact HT3.out _ _ _) | (with_reducible exact HT4.out _ _ _) | (with_reducible exact HT5.out _ _ _)))
  refine wpQuiet_nil ?_
  rintro _ ⟨⟨dq, osq⟩, rfl⟩
  clear f0 f1 f2 r0 r1 r2 u0 u1 u2 c5 c6 c7
  refine wpList_store_arr rfl 41 (.tmp 10) (.tmp 103) rfl (w.heap.size + 1) #[.int .i64 ex, .int .i64 ey, .int .i64 ez, .int .i64 jx, .int .i64 jy, .int .i64 jz] rfl rfl 41 _ (heap_regrown HR.out dq osq) ray_size rfl (ones6 _ _ _ _ _ _) rfl ?_
  have hb2 : Below w.heap.size w (grow (redrawn W13 dq) osq) := HB.out.trans ((below_regrown W13 dq osq).mono HB.out.size)
  have H4 := Lib.hid (setRow_heap (grow (redrawn W13 dq) osq) (w.heap.size + 1) _ #[.int .i64 ex, .int .i64 ey, .int .i64 ez, .int .i64 jx, .int .i64 jy, .int .i64 jz] _ _ (heap_regrown HR.out dq osq))
  have HB4 := Lib.hid (below_setRow hb2 (show w.heap.size ≤ w.heap.size + 1 by omega) #[.int .i64 ex, .int .i64 ey, .int .i64 ez, .int .i64 jx, .int .i64 jy, .int .i64 jz])
  clear hb2
  generalize (grow (redrawn W13 dq) osq).setRow (w.heap.size + 1) #[.int .i64 ex, .int .i64 ey, .int .i64 ez, .int .i64 jx, .int .i64 jy, .int .i64 jz] = w3 at *
  go_wp2_with fail
  refine bodyPost_ret (results_cell_row rfl _ _ (w.heap.size + 1) 41 _ _ _ rfl H4.out Try.underlying41 rfl ray_size) rfl ?_
  exact ⟨rfl, HB4.out⟩
end Go.Proofs.Ytnfbeldiideonaa.LightG
