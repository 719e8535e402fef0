/- The walk of light.Camera. -/
import Derived.Test.YtnfbeldiideonaaLightC
import Derived.Test.YtnfbeldiideonaaLightP
import Derived.Test.YtnfbeldiideonaaLightK
import Derived.Test.YtnfbeldiideonaaQa
set_option linter.unusedVariables false
set_option linter.unusedSimpArgs false
namespace Go.Proofs.Ytnfbeldiideonaa.LightD
open Go.RowKit Go.Sort FixM Base Num FixW FixV FixU FixT FixS FixO FixN FixK FixP Qb Qt VecW VecV VecU LightM LightW LightQ LightK Qa LightC LightP

/-- a scene's parts, as they lie in a row: behind them three slices that layer 21 does not read -/
structure Scn where
  w : Int
  h : Int
  sm : Value
  bo : Value
  seed : Value
  eye : V3
  at' : V3
  up : V3
  wide : Int
  sky : Array Value
abbrev Scn.row (s : Scn) : Array Value := #[.int .i64 s.w, .int .i64 s.h, s.sm, s.bo, s.seed, .int .i64 s.eye.x, .int .i64 s.eye.y, .int .i64 s.eye.z, .int .i64 s.at'.x, .int .i64 s.at'.y, .int .i64 s.at'.z, .int .i64 s.up.x, .int .i64 s.up.y, .int .i64 s.up.z, .int .i64 s.wide, s.sky.getD 0 undef, s.sky.getD 1 undef, s.sky.getD 2 undef, s.sky.getD 3 undef, s.sky.getD 4 undef, s.sky.getD 5 undef]
structure Scn.ok (s : Scn) : Prop where
  w : In s.w
  h : In s.h
  eye : s.eye.ok
  at' : s.at'.ok
  up : s.up.ok
  wide : In s.wide
abbrev zero6 : Array Value := #[.int .i64 0, .int .i64 0, .int .i64 0, .int .i64 0, .int .i64 0, .int .i64 0]
theorem ray_size : (Try.prog.info? 41).map (·.size) = some 6 := by kernel_rfl
theorem ones6 (a b c d e f : Int) : ∀ v ∈ (#[Value.int .i64 a, .int .i64 b, .int .i64 c, .int .i64 d, .int .i64 e, .int .i64 f] : Array Value).toList, v.oneCell' = true := by
  intro v hv; simp at hv; rcases hv with rfl | rfl | rfl | rfl | rfl | rfl <;> rfl
theorem alloc_vec (w : World) : (Instr.alloc 23 true (.tuple #[])).run Try.prog w = .ok (.pointer (some ⟨w.heap.size, 0, none⟩)) (w.alloc (box3 ⟨0, 0, 0⟩)) := by kernel_rfl
/-- the two blocks that Camera makes first, in a later world -/
structure Cam (w : World) (row : Array Value) (W : World) : Prop where
  h0 : W.heap[w.heap.size]? = some (.cells row 34)
  h1 : W.heap[w.heap.size + 1]? = some (.cells zero6 41)
  hb : Below w.heap.size w W
theorem Cam.step {w W W' : World} {row : Array Value} (h : Cam w row W) (hb : Below W.heap.size W W') : Cam w row W' :=
  ⟨(hb.block _ (lt_of_heap h.h0)).trans h.h0, (hb.block _ (lt_of_heap h.h1)).trans h.h1, h.hb.trans (hb.mono h.hb.size)⟩
theorem vec_step {W W' : World} {g : Nat} {o : Obj} (h : W.heap[g]? = some o) (hb : Below W.heap.size W W') : W'.heap[g]? = some o := (hb.block _ (lt_of_heap h)).trans h
theorem cell_row {W : World} {g : Nat} {T : TypeId} {row : Array Value} (h : W.heap[g]? = some (.cells row T)) (k : Nat) (v : Value) (hv : row[k]? = some v) : W.cell? ⟨g, k, none⟩ = some v := by
  rw [cell_of_row W g k _ _ _ h]; exact hv

set_option maxRecDepth 100000 in
set_option maxHeartbeats 8000000 in
theorem camera_any (s : Scn) (hs : s.ok) (x y dx dy : Int) (hx : In x) (hy : In y) (hdx : In dx) (hdy : In dy) (w : World) : Calls Try.prog 8 #[.agg s.row, .int .i64 x, .int .i64 y, .int .i64 dx, .int .i64 dy] w (VTo (rayV s.eye (cameraF s.w s.h s.eye s.at' s.up s.wide x y dx dy)) w) := by
  have hw1 : In (max s.w 1) := by have := hs.w; unfold In at *; omega
  have hh1 : In (max s.h 1) := by have := hs.h; unfold In at *; omega
  have hwide := hs.wide
  have S1 := fun W => vsub_any s.at' s.eye hs.at' hs.eye W
  have S2 := fun W => vunit_any (map2 subF s.at' s.eye) (ok_map2 in_sub _ _) W
  obtain ⟨p, hp⟩ : ∃ p, p = map2 subF s.at' s.eye := ⟨_, rfl⟩
  obtain ⟨f, hf⟩ : ∃ f, f = unitF p := ⟨_, rfl⟩
  rw [← hp] at S1 S2
  rw [← hf] at S2
  have okf : f.ok := by rw [hf]; exact ok_unit _
  have S3 := fun W => vcross_any f s.up okf hs.up W
  obtain ⟨q, hq⟩ : ∃ q, q = crossF f s.up := ⟨_, rfl⟩
  rw [← hq] at S3
  have okq : q.ok := by rw [hq]; exact ok_cross _ _
  have S4 := fun W => vunit_any q okq W
  obtain ⟨r, hr⟩ : ∃ r, r = unitF q := ⟨_, rfl⟩
  rw [← hr] at S4
  have okr : r.ok := by rw [hr]; exact ok_unit _
  have S5 := fun W => vcross_any r f okr okf W
  obtain ⟨u, hu⟩ : ∃ u, u = crossF r f := ⟨_, rfl⟩
  rw [← hu] at S5
  have oku : u.ok := by rw [hu]; exact ok_cross _ _
  have O1 := fun W => of_any (max s.w 1) hw1.1 hw1.2 W
  have O2 := fun W => of_any (max s.h 1) hh1.1 hh1.2 W
  have O3 := fun W => of_any x hx.1 hx.2 W
  have O4 := fun W => of_any y hy.1 hy.2 W
  have h1 := in_ofF (max s.w 1)
  have h2 := in_ofF (max s.h 1)
  have h3 := in_ofF x
  have h4 := in_ofF y
  obtain ⟨sw, hsw⟩ : ∃ c, c = ofF (max s.w 1) := ⟨_, rfl⟩
  obtain ⟨sh, hsh⟩ : ∃ c, c = ofF (max s.h 1) := ⟨_, rfl⟩
  obtain ⟨ox, hox⟩ : ∃ c, c = ofF x := ⟨_, rfl⟩
  obtain ⟨oy, hoy⟩ : ∃ c, c = ofF y := ⟨_, rfl⟩
  rw [← hsw] at O1 h1
  rw [← hsh] at O2 h2
  rw [← hox] at O3 h3
  rw [← hoy] at O4 h4
  have Q1 := fun W => qs (P := Try.prog) (W := W) (fun w => O1 w)
  have Q2 := fun W => qs (P := Try.prog) (W := W) (fun w => O2 w)

  have A1 := fun W => add_any ox dx h3.1 h3.2 hdx.1 hdx.2 W
  obtain ⟨ax1, hax1⟩ : ∃ c, c = addF ox dx := ⟨_, rfl⟩
  rw [← hax1] at A1
  have iax1 : In ax1 := by rw [hax1]; exact in_add _ _
  have A2 := fun W => add_any oy dy h4.1 h4.2 hdy.1 hdy.2 W
  obtain ⟨ay1, hay1⟩ : ∃ c, c = addF oy dy := ⟨_, rfl⟩
  rw [← hay1] at A2
  have iay1 : In ay1 := by rw [hay1]; exact in_add _ _
  have D1 := fun W => div_any ax1 sw iax1.1 iax1.2 h1.1 h1.2 W
  obtain ⟨a, ha⟩ : ∃ c, c = divF ax1 sw := ⟨_, rfl⟩
  rw [← ha] at D1
  have ia : In a := by rw [ha]; exact in_div _ _
  have D2 := fun W => div_any ay1 sh iay1.1 iay1.2 h2.1 h2.2 W
  obtain ⟨b, hb⟩ : ∃ c, c = divF ay1 sh := ⟨_, rfl⟩
  rw [← hb] at D2
  have ib : In b := by rw [hb]; exact in_div _ _
  have A3 := fun W => add_any a a ia.1 ia.2 ia.1 ia.2 W
  obtain ⟨aa, haa⟩ : ∃ c, c = addF a a := ⟨_, rfl⟩
  rw [← haa] at A3
  have iaa : In aa := by rw [haa]; exact in_add _ _
  have hone : In 4294967296 := by unfold In; omega
  have B1 := fun W => sub_any aa 4294967296 iaa.1 iaa.2 hone.1 hone.2 W
  obtain ⟨am, ham⟩ : ∃ c, c = subF aa 4294967296 := ⟨_, rfl⟩
  rw [← ham] at B1
  have iam : In am := by rw [ham]; exact in_sub _ _
  have M1 := fun W => mul_any am s.wide iam.1 iam.2 hwide.1 hwide.2 W
  obtain ⟨px, hpx⟩ : ∃ c, c = mulF am s.wide := ⟨_, rfl⟩
  rw [← hpx] at M1
  have ipx : In px := by rw [hpx]; exact in_mul _ _
  have M2 := fun W => mul_any s.wide sh hwide.1 hwide.2 h2.1 h2.2 W
  obtain ⟨wh, hwh⟩ : ∃ c, c = mulF s.wide sh := ⟨_, rfl⟩
  rw [← hwh] at M2
  have iwh : In wh := by rw [hwh]; exact in_mul _ _
  have D3 := fun W => div_any wh sw iwh.1 iwh.2 h1.1 h1.2 W
  obtain ⟨tall, htall⟩ : ∃ c, c = divF wh sw := ⟨_, rfl⟩
  rw [← htall] at D3
  have itall : In tall := by rw [htall]; exact in_div _ _
  have A4 := fun W => add_any b b ib.1 ib.2 ib.1 ib.2 W
  obtain ⟨bb, hbb⟩ : ∃ c, c = addF b b := ⟨_, rfl⟩
  rw [← hbb] at A4
  have ibb : In bb := by rw [hbb]; exact in_add _ _
  have B2 := fun W => sub_any 4294967296 bb hone.1 hone.2 ibb.1 ibb.2 W
  obtain ⟨bm, hbm⟩ : ∃ c, c = subF 4294967296 bb := ⟨_, rfl⟩
  rw [← hbm] at B2
  have ibm : In bm := by rw [hbm]; exact in_sub _ _
  have M3 := fun W => mul_any bm tall ibm.1 ibm.2 itall.1 itall.2 W
  obtain ⟨py, hpy⟩ : ∃ c, c = mulF bm tall := ⟨_, rfl⟩
  rw [← hpy] at M3
  have ipy : In py := by rw [hpy]; exact in_mul _ _
  have Q3 := fun W => qs (P := Try.prog) (W := W) (fun w => A3 w)
  have Q4 := fun W => qs (P := Try.prog) (W := W) (fun w => B1 w)
  have Q5 := fun W => qs (P := Try.prog) (W := W) (fun w => M1 w)
  have T1 := fun W => qb (P := Try.prog) (W := W) (fun w2 _ => vscale_any r px okr ipx w2)
  have T2 := fun W => qb (P := Try.prog) (W := W) (fun w2 _ => vscale_any u py oku ipy w2)
  obtain ⟨t1, ht1⟩ : ∃ t, t = map1 (fun x => mulF x px) r := ⟨_, rfl⟩
  obtain ⟨t2, ht2⟩ : ∃ t, t = map1 (fun x => mulF x py) u := ⟨_, rfl⟩
  rw [← ht1] at T1
  rw [← ht2] at T2
  have okt1 : t1.ok := by rw [ht1]; exact ok_map1 (fun x => in_mul _ _) _
  have okt2 : t2.ok := by rw [ht2]; exact ok_map1 (fun x => in_mul _ _) _
  have T3 := fun W => qb (P := Try.prog) (W := W) (fun w2 _ => vadd_any t1 t2 okt1 okt2 w2)
  obtain ⟨t3, ht3⟩ : ∃ t, t = map2 addF t1 t2 := ⟨_, rfl⟩
  rw [← ht3] at T3
  have okt3 : t3.ok := by rw [ht3]; exact ok_map2 in_add _ _
  have T4 := fun W => qb (P := Try.prog) (W := W) (fun w2 _ => vadd_any f t3 okf okt3 w2)
  obtain ⟨t4, ht4⟩ : ∃ t, t = map2 addF f t3 := ⟨_, rfl⟩
  rw [← ht4] at T4
  have okt4 : t4.ok := by rw [ht4]; exact ok_map2 in_add _ _
  have T5 := fun W => qb (P := Try.prog) (W := W) (fun w2 _ => vunit_any t4 okt4 w2)
  have hd : cameraF s.w s.h s.eye s.at' s.up s.wide x y dx dy = unitF t4 := by
    rw [ht4, ht3, ht2, ht1, hpy, hbm, hbb, htall, hwh, hpx, ham, haa, hb, ha, hay1, hax1, hoy, hox, hsh, hsw, hu, hr, hq, hf, hp]; rfl
  obtain ⟨d, hdd⟩ : ∃ d, d = unitF t4 := ⟨_, rfl⟩
  rw [hd]
  rw [← hdd] at T5 ⊢
  have D1' := fun W => drawn_to (D1 W)
  have D2' := fun W => drawn_to (D2 W)
  have D3' := fun W => drawn_to (D3 W)
  clear hd hdd ht1 ht2 ht3 ht4 hpy hbm hbb htall hwh hpx ham haa hb ha hay1 hax1 hoy hox hsh hsw hu hr hq hf hp okt1 okt2 okt3 okt4 oku okr okq okf hw1 hh1 hwide h1 h2 h3 h4 iax1 iay1 ia ib iaa iam ipx iwh itall ibb ibm ipy hone hx hy hdx hdy D1 D2 D3 O1 O2 A3 B1 M1 hs
  obtain ⟨sW, sH, sm, bo, seed, ⟨ex, ey, ez⟩, ⟨ax, ay, az⟩, ⟨ux, uy, uz⟩, wide, sky⟩ := s
  obtain ⟨qx, qy, qz⟩ := q
  obtain ⟨fx, fy, fz⟩ := f
  obtain ⟨rx, ry, rz⟩ := r
  obtain ⟨vx, vy, vz⟩ := u
  obtain ⟨kx, ky, kz⟩ := p
  obtain ⟨lx, ly, lz⟩ := t1
  obtain ⟨mx, my, mz⟩ := t2
  obtain ⟨nx, ny, nz⟩ := t3
  obtain ⟨ix, iy, iz⟩ := t4
  obtain ⟨jx, jy, jz⟩ := d
  dsimp only [Scn.row, vecV] at *
  obtain ⟨s1, hs1⟩ : ∃ v, v = sky.getD 0 undef := ⟨_, rfl⟩
  obtain ⟨s2, hs2⟩ : ∃ v, v = sky.getD 1 undef := ⟨_, rfl⟩
  obtain ⟨s3, hs3⟩ : ∃ v, v = sky.getD 2 undef := ⟨_, rfl⟩
  obtain ⟨s4, hs4⟩ : ∃ v, v = sky.getD 3 undef := ⟨_, rfl⟩
  obtain ⟨s5, hs5⟩ : ∃ v, v = sky.getD 4 undef := ⟨_, rfl⟩
  obtain ⟨s6, hs6⟩ : ∃ v, v = sky.getD 5 undef := ⟨_, rfl⟩
  rw [← hs1, ← hs2, ← hs3, ← hs4, ← hs5, ← hs6]
  clear hs1 hs2 hs3 hs4 hs5 hs6 sky
  obtain ⟨row, hrow⟩ : ∃ row : Array Value, row = #[.int .i64 sW, .int .i64 sH, sm, bo, seed, .int .i64 ex, .int .i64 ey, .int .i64 ez, .int .i64 ax, .int .i64 ay, .int .i64 az, .int .i64 ux, .int .i64 uy, .int .i64 uz, .int .i64 wide, s1, s2, s3, s4, s5, s6] := ⟨_, rfl⟩
  obtain ⟨W, hW⟩ : ∃ W, W = (w.alloc (.cells #[.int .i64 sW, .int .i64 sH, sm, bo, seed, .int .i64 ex, .int .i64 ey, .int .i64 ez, .int .i64 ax, .int .i64 ay, .int .i64 az, .int .i64 ux, .int .i64 uy, .int .i64 uz, .int .i64 wide, s1, s2, s3, s4, s5, s6] 34)).alloc (.cells zero6 41) := ⟨_, rfl⟩
  have K := Lib.hid (show Cam w row W from ⟨by rw [hW, hrow]; exact alloc2_0 _ _ _, by rw [hW]; exact alloc2_1 _ _ _, by rw [hW]; exact alloc2_below _ _ _⟩)
  have w0 := cell_all K.out.h0 0 (.int .i64 sW) (by rw [hrow]; rfl)
  have w1 := cell_all K.out.h0 1 (.int .i64 sH) (by rw [hrow]; rfl)
  have k5 : row[5]? = some (.int .i64 ex) := by rw [hrow]; rfl
  have k6 : row[6]? = some (.int .i64 ey) := by rw [hrow]; rfl
  have k7 : row[7]? = some (.int .i64 ez) := by rw [hrow]; rfl
  have k8 : row[8]? = some (.int .i64 ax) := by rw [hrow]; rfl
  have k9 : row[9]? = some (.int .i64 ay) := by rw [hrow]; rfl
  have k10 : row[10]? = some (.int .i64 az) := by rw [hrow]; rfl
  have k11 : row[11]? = some (.int .i64 ux) := by rw [hrow]; rfl
  have k12 : row[12]? = some (.int .i64 uy) := by rw [hrow]; rfl
  have k13 : row[13]? = some (.int .i64 uz) := by rw [hrow]; rfl
  have k14 : row[14]? = some (.int .i64 wide) := by rw [hrow]; rfl
  clear hrow
  have KK5 := Lib.hid k5
  have KK6 := Lib.hid k6
  have KK7 := Lib.hid k7
  have KK8 := Lib.hid k8
  have KK9 := Lib.hid k9
  have KK10 := Lib.hid k10
  have KK11 := Lib.hid k11
  have KK12 := Lib.hid k12
  have KK13 := Lib.hid k13
  have KK14 := Lib.hid k14
  clear k5 k6 k7 k8 k9 k10 k11 k12 k13 k14
  have HS1 := Lib.hid S1
  have HS2 := Lib.hid S2
  have HS3 := Lib.hid S3
  have HS4 := Lib.hid S4
  have HS5 := Lib.hid S5
  have HO3 := Lib.hid O3
  have HO4 := Lib.hid O4
  have HA1 := Lib.hid A1
  have HA2 := Lib.hid A2
  have HM2 := Lib.hid M2
  have HA4 := Lib.hid A4
  have HB2 := Lib.hid B2
  have HM3 := Lib.hid M3
  have HQ1 := Lib.hid Q1
  have HQ2 := Lib.hid Q2
  have HQ3 := Lib.hid Q3
  have HQ4 := Lib.hid Q4
  have HQ5 := Lib.hid Q5
  have HT1 := Lib.hid T1
  have HT2 := Lib.hid T2
  have HT3 := Lib.hid T3
  have HT4 := Lib.hid T4
  have HT5 := Lib.hid T5
  have HD1 := Lib.hid D1'
  have HD2 := Lib.hid D2'
  have HD3 := Lib.hid D3'
  have HWW := Lib.hid hW
  clear hW D1' D2' D3' S1 S2 S3 S4 S5 O3 O4 A1 A2 M2 A4 B2 M3 Q1 Q2 Q3 Q4 Q5 T1 T2 T3 T4 T5
  go_enter Try.func8, Try.ntmps8
  go_upto_region 1 with (fail)
  rw [← HWW.out]
  clear HWW
  refine wp_region_quiet_below (by kernel_rfl) (by kernel_rfl) ?_
  repeat (go_big_quiet_step (first | (with_reducible exact HQ1.out _ _ _) | (with_reducible exact HQ2.out _ _ _)))
  refine wpQuiet_nil ?_
  rintro _ ⟨⟨dq, osq⟩, rfl⟩
  clear w0 w1
  have K1 := Lib.hid (K.out.step (below_regrown W dq osq))
  generalize grow (redrawn W dq) osq = W1 at *
  clear K HQ1 HQ2
  have c5 := cell_row K1.out.h0 5 _ KK5.out
  have c6 := cell_row K1.out.h0 6 _ KK6.out
  have c7 := cell_row K1.out.h0 7 _ KK7.out
  have c8 := cell_row K1.out.h0 8 _ KK8.out
  have c9 := cell_row K1.out.h0 9 _ KK9.out
  have c10 := cell_row K1.out.h0 10 _ KK10.out
  go_wp2_with fail
  clear c5 c6 c7 c8 c9 c10
  refine (HS1.out _).mono ?_
  rintro e W2 ⟨rfl, hb2⟩
  have K2 := Lib.hid (K1.out.step hb2)
  clear K1 hb2 HS1 W1
  go_wp2_with fail
  refine (HS2.out _).mono ?_
  rintro e W3 ⟨rfl, hb3⟩
  have K3 := Lib.hid (K2.out.step hb3)
  clear K2 hb3 HS2 W2

  obtain ⟨W4, hW4⟩ : ∃ W, W = (W3.alloc (box3 ⟨0, 0, 0⟩)).setRow W3.heap.size #[.int .i64 fx, .int .i64 fy, .int .i64 fz] := ⟨_, rfl⟩
  have F4 := Lib.hid (show W4.heap[W3.heap.size]? = some (box3 ⟨fx, fy, fz⟩) by rw [hW4]; exact put3_row _ _ _ _)
  have hxW4 : Below W3.heap.size W3 W4 := by rw [hW4]; exact put3_ext _ _ _ _
  have K4 := Lib.hid (K3.out.step hxW4)
  have HHW4 := Lib.hid hW4
  clear hW4 hxW4 K3
  go_upto_region 3 with (with_reducible refine store_vec rfl (.tmp 13) (.tmp 35) rfl rfl W3.heap.size fx fy fz rfl rfl _ _ _ (heap_alloc_new _ _) ?_)
  rw [← HHW4.out]
  clear HHW4
  generalize W3.heap.size = g13 at *
  clear W3
  obtain ⟨f0, f1, f2⟩ := cells_now F4.out
  have c11 := cell_row K4.out.h0 11 _ KK11.out
  have c12 := cell_row K4.out.h0 12 _ KK12.out
  have c13 := cell_row K4.out.h0 13 _ KK13.out
  go_wp2_with fail
  clear c11 c12 c13 f0 f1 f2
  refine (HS3.out _).mono ?_
  rintro e W5 ⟨rfl, hb5⟩
  have K5 := Lib.hid (K4.out.step hb5)
  have F5 := Lib.hid (vec_step F4.out hb5)
  clear K4 F4 hb5 HS3 W4
  go_wp2_with fail
  refine (HS4.out _).mono ?_
  rintro e W6 ⟨rfl, hb6⟩
  have K6 := Lib.hid (K5.out.step hb6)
  have F6 := Lib.hid (vec_step F5.out hb6)
  clear K5 F5 hb6 HS4 W5
  obtain ⟨W7, hW7⟩ : ∃ W, W = (W6.alloc (box3 ⟨0, 0, 0⟩)).setRow W6.heap.size #[.int .i64 rx, .int .i64 ry, .int .i64 rz] := ⟨_, rfl⟩
  have R7 := Lib.hid (show W7.heap[W6.heap.size]? = some (box3 ⟨rx, ry, rz⟩) by rw [hW7]; exact put3_row _ _ _ _)
  have hxW7 : Below W6.heap.size W6 W7 := by rw [hW7]; exact put3_ext _ _ _ _
  have K7 := Lib.hid (K6.out.step hxW7)
  have F7 := Lib.hid (vec_step F6.out hxW7)
  have HHW7 := Lib.hid hW7
  clear hW7 hxW7 K6 F6
  go_upto_region 4 with (with_reducible refine store_vec rfl (.tmp 14) (.tmp 40) rfl rfl W6.heap.size rx ry rz rfl rfl _ _ _ (heap_alloc_new _ _) ?_)
  rw [← HHW7.out]
  clear HHW7
  generalize W6.heap.size = g14 at *
  clear W6
  obtain ⟨f0, f1, f2⟩ := cells_now F7.out
  obtain ⟨r0, r1, r2⟩ := cells_now R7.out
  go_wp2_with fail
  clear r0 r1 r2 f0 f1 f2
  refine (HS5.out _).mono ?_
  rintro e W8 ⟨rfl, hb8⟩
  have K8 := Lib.hid (K7.out.step hb8)
  have F8 := Lib.hid (vec_step F7.out hb8)
  have R8 := Lib.hid (vec_step R7.out hb8)
  clear K7 F7 R7 hb8 HS5 W7
  obtain ⟨W9, hW9⟩ : ∃ W, W = (W8.alloc (box3 ⟨0, 0, 0⟩)).setRow W8.heap.size #[.int .i64 vx, .int .i64 vy, .int .i64 vz] := ⟨_, rfl⟩
  have U9 := Lib.hid (show W9.heap[W8.heap.size]? = some (box3 ⟨vx, vy, vz⟩) by rw [hW9]; exact put3_row _ _ _ _)
  have hxW9 : Below W8.heap.size W8 W9 := by rw [hW9]; exact put3_ext _ _ _ _
  have K9 := Lib.hid (K8.out.step hxW9)
  have F9 := Lib.hid (vec_step F8.out hxW9)
  have R9 := Lib.hid (vec_step R8.out hxW9)
  have HHW9 := Lib.hid hW9
  clear hW9 hxW9 K8 F8 R8
  go_upto_region 5 with (with_reducible refine store_vec rfl (.tmp 15) (.tmp 43) rfl rfl W8.heap.size vx vy vz rfl rfl _ _ _ (heap_alloc_new _ _) ?_)
  rw [← HHW9.out]
  clear HHW9
  generalize W8.heap.size = g15 at *
  clear W8
  go_wp2_with fail
  refine (HO3.out _).mono ?_
  rintro e w' ⟨rfl, rfl⟩
  go_wp2_with fail
  refine (HA1.out _).mono ?_
  rintro e w' ⟨rfl, rfl⟩
  go_wp2_with fail
  refine (HD1.out _).mono ?_
  rintro e W10 ⟨rfl, hb10⟩
  have K10 := Lib.hid (K9.out.step hb10)
  have F10 := Lib.hid (vec_step F9.out hb10)
  have R10 := Lib.hid (vec_step R9.out hb10)
  have U10 := Lib.hid (vec_step U9.out hb10)
  clear K9 F9 R9 U9 hb10 HO3 HA1 HD1 W9
  go_wp2_with fail
  refine (HO4.out _).mono ?_
  rintro e w' ⟨rfl, rfl⟩
  go_wp2_with fail
  refine (HA2.out _).mono ?_
  rintro e w' ⟨rfl, rfl⟩
  go_wp2_with fail
  refine (HD2.out _).mono ?_
  rintro e W11 ⟨rfl, hb11⟩
  have K11 := Lib.hid (K10.out.step hb11)
  have F11 := Lib.hid (vec_step F10.out hb11)
  have R11 := Lib.hid (vec_step R10.out hb11)
  have U11 := Lib.hid (vec_step U10.out hb11)
  clear K10 F10 R10 U10 hb11 HO4 HA2 HD2 W10
  go_upto_region 7 with (fail)
  have w14 := cell_all K11.out.h0 14 _ KK14.out
  refine wp_region_quiet_below (by kernel_rfl) (by kernel_rfl) ?_
  repeat (go_big_quiet_step (first | (with_reducible exact HQ3.out _ _ _) | (with_reducible exact HQ4.out _ _ _) | (with_reducible exact HQ5.out _ _ _)))
  refine wpQuiet_nil ?_
  rintro _ ⟨⟨dq, osq⟩, rfl⟩
  have hb12 := below_regrown W11 dq osq
  have K12 := Lib.hid (K11.out.step hb12)
  have F12 := Lib.hid (vec_step F11.out hb12)
  have R12 := Lib.hid (vec_step R11.out hb12)
  have U12 := Lib.hid (vec_step U11.out hb12)
  clear K11 F11 R11 U11 hb12 w14
  generalize grow (redrawn W11 dq) osq = W12 at *
  clear HQ3 HQ4 HQ5 W11
  have c14 := cell_row K12.out.h0 14 _ KK14.out
  go_wp2_with fail
  clear c14
  refine (HM2.out _).mono ?_
  rintro e w' ⟨rfl, rfl⟩
  go_wp2_with fail
  refine (HD3.out _).mono ?_
  rintro e W13 ⟨rfl, hb13⟩
  have K13 := Lib.hid (K12.out.step hb13)
  have F13 := Lib.hid (vec_step F12.out hb13)
  have R13 := Lib.hid (vec_step R12.out hb13)
  have U13 := Lib.hid (vec_step U12.out hb13)
  clear K12 F12 R12 U12 hb13 HM2 HD3 W12
  go_wp2_with fail
  refine (HA4.out _).mono ?_
  rintro e w' ⟨rfl, rfl⟩
  go_wp2_with fail
  refine (HB2.out _).mono ?_
  rintro e w' ⟨rfl, rfl⟩
  go_wp2_with fail
  refine (HM3.out _).mono ?_
  rintro e w' ⟨rfl, rfl⟩
  clear HA4 HB2 HM3
  go_upto_region 10 with (fail)
  refine wp_region_allocs 10 [0, 1, 2, 3, 4, 5, 6, 7, 8] [(9, 21, box3 ⟨0, 0, 0⟩)] (by kernel_rfl) (by kernel_rfl) (by
    intro x hx
    simp only [List.mem_cons, List.not_mem_nil, or_false] at hx
    rcases hx with rfl
    exact ⟨by decide, _, rfl, ⟨⟨_, rfl, alloc_vec⟩, rfl, rfl⟩⟩) (by decide) (by decide) ?_
  refine Walk.step (A := ?A1) (o := ?o1) ?e1 ?w1 75 ?d1 (by simp) ?h1 ?n1
  case e1 => simp only [List.getElem?_toArray, List.getElem?_cons_succ, List.getElem?_cons_zero]; exact rfl
  case w1 => exact rfl
  case d1 => exact rfl
  case h1 =>
    intro W9 hW9
    obtain ⟨e0, e1, e2⟩ := cells3 ((hW9.block _ (lt_of_heap F13.out)).trans F13.out)
    go_big_quiet_op
    exact rfl
  refine Walk.step (A := ?A2) (o := ?o2) ?e2 ?w2 76 ?d2 (by simp) ?h2 ?n2
  case e2 => simp only [List.getElem?_toArray, List.getElem?_cons_succ, List.getElem?_cons_zero]; exact rfl
  case w2 => exact rfl
  case d2 => exact rfl
  case h2 =>
    intro W9 hW9
    obtain ⟨e0, e1, e2⟩ := cells3 ((hW9.block _ (lt_of_heap R13.out)).trans R13.out)
    go_big_quiet_op
    exact rfl
  refine Walk.step (A := ?A3) (o := ?o3) ?e3 ?w3 77 ?d3 (by simp) ?h3 ?n3
  case e3 => simp only [List.getElem?_toArray, List.getElem?_cons_succ, List.getElem?_cons_zero]; exact rfl
  case w3 => exact rfl
  case d3 => exact rfl
  case h3 =>
    intro W9 hW9
    go_big_quiet_op
    exact rfl
  refine Walk.step (A := ?A4) (o := ?o4) ?e4 ?w4 78 ?d4 (by simp) ?h4 ?n4
  case e4 => simp only [List.getElem?_toArray, List.getElem?_cons_succ, List.getElem?_cons_zero]; exact rfl
  case w4 => exact rfl
  case d4 => exact rfl
  case h4 =>
    intro W9 hW9
    go_big_quiet_op
    apply Exists.intro
    refine ⟨fun _ => ?_, ?_⟩
    · with_reducible exact HT1.out _ _ _
    · exact rfl
  refine Walk.step (A := ?A5) (o := ?o5) ?e5 ?w5 79 ?d5 (by simp) ?h5 ?n5
  case e5 => simp only [List.getElem?_toArray, List.getElem?_cons_succ, List.getElem?_cons_zero]; exact rfl
  case w5 => exact rfl
  case d5 => exact rfl
  case h5 =>
    intro W9 hW9
    obtain ⟨e0, e1, e2⟩ := cells3 ((hW9.block _ (lt_of_heap U13.out)).trans U13.out)
    go_big_quiet_op
    exact rfl
  refine Walk.step (A := ?A6) (o := ?o6) ?e6 ?w6 80 ?d6 (by simp) ?h6 ?n6
  case e6 => simp only [List.getElem?_toArray, List.getElem?_cons_succ, List.getElem?_cons_zero]; exact rfl
  case w6 => exact rfl
  case d6 => exact rfl
  case h6 =>
    intro W9 hW9
    go_big_quiet_op
    exact rfl
  refine Walk.step (A := ?A7) (o := ?o7) ?e7 ?w7 81 ?d7 (by simp) ?h7 ?n7
  case e7 => simp only [List.getElem?_toArray, List.getElem?_cons_succ, List.getElem?_cons_zero]; exact rfl
  case w7 => exact rfl
  case d7 => exact rfl
  case h7 =>
    intro W9 hW9
    go_big_quiet_op
    apply Exists.intro
    refine ⟨fun _ => ?_, ?_⟩
    · with_reducible exact HT2.out _ _ _
    · exact rfl
  refine Walk.step (A := ?A8) (o := ?o8) ?e8 ?w8 82 ?d8 (by simp) ?h8 ?n8
  case e8 => simp only [List.getElem?_toArray, List.getElem?_cons_succ, List.getElem?_cons_zero]; exact rfl
  case w8 => exact rfl
  case d8 => exact rfl
  case h8 =>
    intro W9 hW9
    go_big_quiet_op
    apply Exists.intro
    refine ⟨fun _ => ?_, ?_⟩
    · with_reducible exact HT3.out _ _ _
    · exact rfl
  refine Walk.step (A := ?A9) (o := ?o9) ?e9 ?w9 83 ?d9 (by simp) ?h9 ?n9
  case e9 => simp only [List.getElem?_toArray, List.getElem?_cons_succ, List.getElem?_cons_zero]; exact rfl
  case w9 => exact rfl
  case d9 => exact rfl
  case h9 =>
    intro W9 hW9
    go_big_quiet_op
    apply Exists.intro
    refine ⟨fun _ => ?_, ?_⟩
    · with_reducible exact HT4.out _ _ _
    · exact rfl
  simp only [Walk, All]
  intro g21 hg hf w2 hD2
  have k21 : w2.heap[g21]? = some (box3 ⟨0, 0, 0⟩) := hD2.2 (g21, box3 ⟨0, 0, 0⟩) (by simp)
  have K14 := Lib.hid (K13.out.step hD2.1)
  clear hf hD2
  simp only [List.drop_succ_cons, List.drop_zero, Act.put, List.setIfInBounds_toArray, List.set_cons_succ, List.set_cons_zero, ptr]
  refine store_vec rfl (.tmp 21) (.tmp 83) rfl rfl g21 ix iy iz rfl rfl _ _ _ k21 ?_
  have I15 := Lib.hid (setRow_heap w2 g21 _ #[.int .i64 ix, .int .i64 iy, .int .i64 iz] _ _ k21)
  have hgs : w.heap.size < g21 ∧ w.heap.size + 1 < g21 := by have := lt_of_heap K13.out.h1; omega
  have K15 := Lib.hid (show Cam w row (w2.setRow g21 #[.int .i64 ix, .int .i64 iy, .int .i64 iz]) from ⟨(setRow_other _ _ _ _ (by omega)).trans K14.out.h0, (setRow_other _ _ _ _ (by omega)).trans K14.out.h1, below_setRow K14.out.hb (by omega) _⟩)
  clear k21 hg hgs K14 K13 F13 R13 U13
  generalize w2.setRow g21 _ = W15 at *
  clear w2 W13 HT1 HT2 HT3 HT4
  go_upto_region 11 with (fail)
  obtain ⟨i0, i1, i2⟩ := cells3 I15.out
  have c5 := cell_all K15.out.h0 5 _ KK5.out
  have c6 := cell_all K15.out.h0 6 _ KK6.out
  have c7 := cell_all K15.out.h0 7 _ KK7.out
  have HR := Lib.hid K15.out.h1
  have HB := Lib.hid K15.out.hb
  clear K15 I15
  refine wp_region_below_tail 5 (by kernel_rfl) (by kernel_rfl) ?_
  simp only [List.take_succ_cons, List.take_zero, List.drop_succ_cons, List.drop_zero]
  repeat (go_big_quiet_step (first | (with_reducible exact HT5.out _ _ _)))
  refine wpQuiet_nil ?_
  rintro _ ⟨⟨dq, osq⟩, rfl⟩
  clear i0 i1 i2 c5 c6 c7
  refine wpList_store_arr rfl 41 (.tmp 10) (.tmp 88) rfl (w.heap.size + 1) #[.int .i64 ex, .int .i64 ey, .int .i64 ez, .int .i64 jx, .int .i64 jy, .int .i64 jz] rfl rfl 41 _ (heap_regrown HR.out dq osq) ray_size rfl (ones6 _ _ _ _ _ _) rfl ?_
  have hb2 : Below w.heap.size w (grow (redrawn W15 dq) osq) := HB.out.trans ((below_regrown W15 dq osq).mono HB.out.size)
  have H4 := Lib.hid (setRow_heap (grow (redrawn W15 dq) osq) (w.heap.size + 1) _ #[.int .i64 ex, .int .i64 ey, .int .i64 ez, .int .i64 jx, .int .i64 jy, .int .i64 jz] _ _ (heap_regrown HR.out dq osq))
  have HB4 := Lib.hid (below_setRow hb2 (show w.heap.size ≤ w.heap.size + 1 by omega) #[.int .i64 ex, .int .i64 ey, .int .i64 ez, .int .i64 jx, .int .i64 jy, .int .i64 jz])
  clear hb2
  generalize (grow (redrawn W15 dq) osq).setRow (w.heap.size + 1) #[.int .i64 ex, .int .i64 ey, .int .i64 ez, .int .i64 jx, .int .i64 jy, .int .i64 jz] = w3 at *
  go_wp2_with fail
  refine bodyPost_ret (results_cell_row rfl _ _ (w.heap.size + 1) 41 _ _ _ rfl H4.out Try.underlying41 rfl ray_size) rfl ?_
  exact ⟨rfl, HB4.out⟩
end Go.Proofs.Ytnfbeldiideonaa.LightD
