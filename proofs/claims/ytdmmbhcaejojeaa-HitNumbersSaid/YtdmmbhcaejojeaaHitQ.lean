/- The walks of SmallMesh, HitMeets and HitTells. -/
import Derived.Test.YtdmmbhcaejojeaaHitR4
import Derived.Test.YtdmmbhcaejojeaaHitZ
set_option linter.unusedVariables false
set_option linter.unusedSimpArgs false
namespace Go.Proofs.Ytdmmbhcaejojeaa.HitQ
open Go.RowKit Go.Sort FixM Base Num FixW Qb Qt Qa Qf Qg VecW VecV VecU LightQ LightC MeshM Rec MeshA MeshB MeshC MeshD MeshE MeshP MeshEq HitM HitT HitB HitX HitN HitC HitS HitV HitP HitR HitR2 HitR3 HitR4 HitEq HitZ
set_option maxRecDepth 100000 in
theorem smallMesh_any (v : Value) (m : Msh) (w : World) (hm : IsMesh w v m) (N : Int) : Calls Try.prog 21 #[v, .int .i64 N] w (VTo (.bool (decide ((m.ps.length : Int) ≤ N) && decide ((m.ts.length : Int) ≤ N) && decide ((m.bs.length : Int) ≤ N))) w) := by
  obtain ⟨a0, c0, a1, c1, a2, c2, rfl, h0, h1, h2, l0, l1, l2⟩ := hm.open_
  have HB := Lib.hid (ext_alloc w (.cells #[.slice a0 m.ps.length c0, .slice a1 m.ts.length c1, .slice a2 m.bs.length c2] 44))
  have hR := heap_alloc_new w (.cells #[.slice a0 m.ps.length c0, .slice a1 m.ts.length c1, .slice a2 m.bs.length c2] 44)
  clear hm h0 h1 h2
  generalize m.ps.length = n0 at *
  generalize m.ts.length = n1 at *
  generalize m.bs.length = n2 at *
  have k0 := cell_row hR 0 (.slice a0 n0 c0) rfl
  have k1 := cell_row hR 1 (.slice a1 n1 c1) rfl
  have k2 := cell_row hR 2 (.slice a2 n2 c2) rfl
  clear hR l0 l1 l2
  cases d0 : decide ((n0 : Int) ≤ N)
  · try simp only [Bool.false_and, Bool.and_false]
    go_enter Try.func21, Try.ntmps21
    go_wp2_with fail
    go_ret
    exact ⟨rfl, HB.out⟩
  · try simp only [Bool.true_and]
    cases d1 : decide ((n1 : Int) ≤ N)
    · try simp only [Bool.false_and, Bool.and_false]
      go_enter Try.func21, Try.ntmps21
      go_wp2_with fail
      go_ret
      exact ⟨rfl, HB.out⟩
    · try simp only [Bool.true_and]
      cases d2 : decide ((n2 : Int) ≤ N)
      · try simp only [Bool.false_and, Bool.and_false]
        go_enter Try.func21, Try.ntmps21
        go_wp2_with fail
        go_ret
        exact ⟨rfl, HB.out⟩
      · try simp only [Bool.true_and]
        go_enter Try.func21, Try.ntmps21
        go_wp2_with fail
        go_ret
        exact ⟨rfl, HB.out⟩

theorem al6 (w : World) (A B C D E F : Obj) : ((((((w.alloc A).alloc B).alloc C).alloc D).alloc E).alloc F).heap[w.heap.size]? = some A ∧ ((((((w.alloc A).alloc B).alloc C).alloc D).alloc E).alloc F).heap[w.heap.size + 1]? = some B ∧ ((((((w.alloc A).alloc B).alloc C).alloc D).alloc E).alloc F).heap[w.heap.size + 1 + 1]? = some C ∧ ((((((w.alloc A).alloc B).alloc C).alloc D).alloc E).alloc F).heap[w.heap.size + 1 + 1 + 1]? = some D ∧ ((((((w.alloc A).alloc B).alloc C).alloc D).alloc E).alloc F).heap[w.heap.size + 1 + 1 + 1 + 1]? = some E ∧ ((((((w.alloc A).alloc B).alloc C).alloc D).alloc E).alloc F).heap[w.heap.size + 1 + 1 + 1 + 1 + 1]? = some F ∧ Below w.heap.size w ((((((w.alloc A).alloc B).alloc C).alloc D).alloc E).alloc F) := by
  obtain ⟨h0, h1, h2, h3, hb⟩ := al4 w A B C D
  obtain ⟨W, hW⟩ : ∃ W, W = (((w.alloc A).alloc B).alloc C).alloc D := ⟨_, rfl⟩
  have sz : W.heap.size = w.heap.size + 1 + 1 + 1 + 1 := by rw [hW]; simp only [MeshQ.al_size]
  rw [← hW] at h0 h1 h2 h3 hb ⊢
  have hx := alloc2_below W E F
  have e0 := alloc2_0 W E F
  have e1 := alloc2_1 W E F
  rw [sz] at e0 e1
  exact ⟨vec_step h0 hx, vec_step h1 hx, vec_step h2 hx, vec_step h3 hx, e0, e1, hb.trans (hx.mono hb.size)⟩
theorem same_hit (t i u v : Int) (w : World) : (Op.equalIn 10000 33 (.agg #[.int .i64 t, .int .i64 i, .int .i64 u, .int .i64 v]) (.agg #[.int .i64 t, .int .i64 i, .int .i64 u, .int .i64 v])).run Try.prog w = .ok true w := by
  rw [eq_hit]; simp
theorem same_vec (x y z : Int) (w : World) : (Op.equalIn 10000 23 (.agg #[.int .i64 x, .int .i64 y, .int .i64 z]) (.agg #[.int .i64 x, .int .i64 y, .int .i64 z])).run Try.prog w = .ok true w :=
  (eq_vec 9998 ⟨x, y, z⟩ ⟨x, y, z⟩ w).trans (by simp)
set_option maxRecDepth 100000 in
set_option maxHeartbeats 16000000 in
theorem hitMeets_any (r : Ry) (b : Bx) (p q s : V3) (c : B4) (hr : r.ok) (hb : HitM.Bx.ok b) (hp : p.ok) (hq : q.ok) (hs : s.ok) (hc : c.c.ok ∧ In c.r) (w : World) : Calls Try.prog 4 #[rayV r, boxV b, vecV p, vecV q, vecV s, .agg #[.int .i64 c.c.x, .int .i64 c.c.y, .int .i64 c.c.z, .int .i64 c.r]] w (AwTo w) := by
  have CB1 := Lib.hid (hbox_any r b hr hb)
  have CB2 := Lib.hid (rhbox_any r b hr hb)
  have CT1 := Lib.hid (tri_any r p q s hr hp hq hs)
  have CT2 := Lib.hid (rtri_any r p q s hr hp hq hs)
  have CL1 := Lib.hid (ball_any r c hr hc.1 hc.2)
  have CL2 := Lib.hid (rball_any r c hr hc.1 hc.2)
  clear hr hb hp hq hs hc
  unfold boxR at CB1 CB2
  unfold triR at CT1 CT2
  unfold ballR at CL1 CL2
  generalize boxH r b = bx at CB1 CB2
  generalize triH r p q s = tx at CT1 CT2
  generalize ballH r c = lx at CL1 CL2
  generalize bx.getD 0 = bt at CB1 CB2
  generalize bx.isSome = bk at CB1 CB2
  generalize tx.getD ht0 = tt at CT1 CT2
  generalize tx.isSome = tk at CT1 CT2
  generalize lx.getD (0, 0) = lt at CL1 CL2
  generalize lx.isSome = lk at CL1 CL2
  obtain ⟨⟨oX, oY, oZ⟩, ⟨dX, dY, dZ⟩⟩ := r
  obtain ⟨⟨lX, lY, lZ⟩, ⟨hX, hY, hZ⟩⟩ := b
  obtain ⟨pX, pY, pZ⟩ := p
  obtain ⟨qX, qY, qZ⟩ := q
  obtain ⟨sX, sY, sZ⟩ := s
  obtain ⟨⟨cX, cY, cZ⟩, cr⟩ := c
  obtain ⟨ht, hi_, hu, hv⟩ := tt
  obtain ⟨x, y⟩ := lt
  unfold boxV rayV vecV hitV at *
  dsimp only at CB1 CB2 CT1 CT2 CL1 CL2 ⊢
  have SHH := same_hit ht hi_ hu hv
  obtain ⟨h0, h1, h2, h3, h4, h5, hb⟩ := al6 w (.cells #[.int .i64 oX, .int .i64 oY, .int .i64 oZ, .int .i64 dX, .int .i64 dY, .int .i64 dZ] 25) (.cells #[.int .i64 lX, .int .i64 lY, .int .i64 lZ, .int .i64 hX, .int .i64 hY, .int .i64 hZ] 29) (.cells #[.int .i64 pX, .int .i64 pY, .int .i64 pZ] 23) (.cells #[.int .i64 qX, .int .i64 qY, .int .i64 qZ] 23) (.cells #[.int .i64 sX, .int .i64 sY, .int .i64 sZ] 23) (.cells #[.int .i64 cX, .int .i64 cY, .int .i64 cZ, .int .i64 cr] 39)
  obtain ⟨W, hW⟩ : ∃ ww, ww = ((((((w.alloc (.cells #[.int .i64 oX, .int .i64 oY, .int .i64 oZ, .int .i64 dX, .int .i64 dY, .int .i64 dZ] 25)).alloc (.cells #[.int .i64 lX, .int .i64 lY, .int .i64 lZ, .int .i64 hX, .int .i64 hY, .int .i64 hZ] 29)).alloc (.cells #[.int .i64 pX, .int .i64 pY, .int .i64 pZ] 23)).alloc (.cells #[.int .i64 qX, .int .i64 qY, .int .i64 qZ] 23)).alloc (.cells #[.int .i64 sX, .int .i64 sY, .int .i64 sZ] 23)).alloc (.cells #[.int .i64 cX, .int .i64 cY, .int .i64 cZ, .int .i64 cr] 39)) := ⟨_, rfl⟩
  rw [← hW] at h0 h1 h2 h3 h4 h5 hb
  have HR0 := Lib.hid h0
  have HX0 := Lib.hid h1
  have HP0 := Lib.hid h2
  have HQ0 := Lib.hid h3
  have HS0 := Lib.hid h4
  have HC0 := Lib.hid h5
  have HB0 := Lib.hid hb
  have HWW := Lib.hid hW
  clear h0 h1 h2 h3 h4 h5 hb hW
  go_enter Try.func4, Try.ntmps4
  go_upto_region 1 with (fail)
  rw [← HWW.out]
  clear HWW
  have cHR0 := cell_row HR0.out 0 _ rfl
  have cHR1 := cell_row HR0.out 1 _ rfl
  have cHR2 := cell_row HR0.out 2 _ rfl
  have cHR3 := cell_row HR0.out 3 _ rfl
  have cHR4 := cell_row HR0.out 4 _ rfl
  have cHR5 := cell_row HR0.out 5 _ rfl
  have cHX0 := cell_row HX0.out 0 _ rfl
  have cHX1 := cell_row HX0.out 1 _ rfl
  have cHX2 := cell_row HX0.out 2 _ rfl
  have cHX3 := cell_row HX0.out 3 _ rfl
  have cHX4 := cell_row HX0.out 4 _ rfl
  have cHX5 := cell_row HX0.out 5 _ rfl
  go_wp2_with fail
  refine (CB1.out _).mono ?_
  rintro e y1 ⟨rfl, hb⟩
  have HR1 := Lib.hid (vec_step HR0.out hb)
  have HX1 := Lib.hid (vec_step HX0.out hb)
  have HP1 := Lib.hid (vec_step HP0.out hb)
  have HQ1 := Lib.hid (vec_step HQ0.out hb)
  have HS1 := Lib.hid (vec_step HS0.out hb)
  have HC1 := Lib.hid (vec_step HC0.out hb)
  have HB1 := Lib.hid (HB0.out.trans (hb.mono HB0.out.size))
  clear HR0 HX0 HP0 HQ0 HS0 HC0 HB0 hb cHR0 cHR1 cHR2 cHR3 cHR4 cHR5 cHX0 cHX1 cHX2 cHX3 cHX4 cHX5 
  have cHR0 := cell_row HR1.out 0 _ rfl
  have cHR1 := cell_row HR1.out 1 _ rfl
  have cHR2 := cell_row HR1.out 2 _ rfl
  have cHR3 := cell_row HR1.out 3 _ rfl
  have cHR4 := cell_row HR1.out 4 _ rfl
  have cHR5 := cell_row HR1.out 5 _ rfl
  have cHX0 := cell_row HX1.out 0 _ rfl
  have cHX1 := cell_row HX1.out 1 _ rfl
  have cHX2 := cell_row HX1.out 2 _ rfl
  have cHX3 := cell_row HX1.out 3 _ rfl
  have cHX4 := cell_row HX1.out 4 _ rfl
  have cHX5 := cell_row HX1.out 5 _ rfl
  go_wp2_with fail
  refine (CB2.out _).mono ?_
  rintro e y2 ⟨rfl, hb⟩
  have HR2 := Lib.hid (vec_step HR1.out hb)
  have HX2 := Lib.hid (vec_step HX1.out hb)
  have HP2 := Lib.hid (vec_step HP1.out hb)
  have HQ2 := Lib.hid (vec_step HQ1.out hb)
  have HS2 := Lib.hid (vec_step HS1.out hb)
  have HC2 := Lib.hid (vec_step HC1.out hb)
  have HB2 := Lib.hid (HB1.out.trans (hb.mono HB1.out.size))
  clear HR1 HX1 HP1 HQ1 HS1 HC1 HB1 hb cHR0 cHR1 cHR2 cHR3 cHR4 cHR5 cHX0 cHX1 cHX2 cHX3 cHX4 cHX5 
  have cHR0 := cell_row HR2.out 0 _ rfl
  have cHR1 := cell_row HR2.out 1 _ rfl
  have cHR2 := cell_row HR2.out 2 _ rfl
  have cHR3 := cell_row HR2.out 3 _ rfl
  have cHR4 := cell_row HR2.out 4 _ rfl
  have cHR5 := cell_row HR2.out 5 _ rfl
  have cHP0 := cell_row HP2.out 0 _ rfl
  have cHP1 := cell_row HP2.out 1 _ rfl
  have cHP2 := cell_row HP2.out 2 _ rfl
  have cHQ0 := cell_row HQ2.out 0 _ rfl
  have cHQ1 := cell_row HQ2.out 1 _ rfl
  have cHQ2 := cell_row HQ2.out 2 _ rfl
  have cHS0 := cell_row HS2.out 0 _ rfl
  have cHS1 := cell_row HS2.out 1 _ rfl
  have cHS2 := cell_row HS2.out 2 _ rfl
  go_wp2_with fail
  refine (CT1.out _).mono ?_
  rintro e y3 ⟨rfl, hb⟩
  have HR3 := Lib.hid (vec_step HR2.out hb)
  have HX3 := Lib.hid (vec_step HX2.out hb)
  have HP3 := Lib.hid (vec_step HP2.out hb)
  have HQ3 := Lib.hid (vec_step HQ2.out hb)
  have HS3 := Lib.hid (vec_step HS2.out hb)
  have HC3 := Lib.hid (vec_step HC2.out hb)
  have HB3 := Lib.hid (HB2.out.trans (hb.mono HB2.out.size))
  clear HR2 HX2 HP2 HQ2 HS2 HC2 HB2 hb cHR0 cHR1 cHR2 cHR3 cHR4 cHR5 cHP0 cHP1 cHP2 cHQ0 cHQ1 cHQ2 cHS0 cHS1 cHS2 
  go_upto_region 4 with (fail)
  have hx := ext_alloc y3 (.cells #[.int .i64 ht, .int .i64 hi_, .int .i64 hu, .int .i64 hv] 33)
  have hn := heap_alloc_new y3 (.cells #[.int .i64 ht, .int .i64 hi_, .int .i64 hu, .int .i64 hv] 33)
  obtain ⟨y4, hW⟩ : ∃ ww, ww = y3.alloc (.cells #[.int .i64 ht, .int .i64 hi_, .int .i64 hu, .int .i64 hv] 33) := ⟨_, rfl⟩
  rw [← hW] at hx hn ⊢
  clear hW
  have HR4 := Lib.hid (vec_step HR3.out hx)
  have HX4 := Lib.hid (vec_step HX3.out hx)
  have HP4 := Lib.hid (vec_step HP3.out hx)
  have HQ4 := Lib.hid (vec_step HQ3.out hx)
  have HS4 := Lib.hid (vec_step HS3.out hx)
  have HC4 := Lib.hid (vec_step HC3.out hx)
  have HB4 := Lib.hid (HB3.out.trans (hx.mono HB3.out.size))
  clear HR3 HX3 HP3 HQ3 HS3 HC3 HB3 hx  
  have HH4 := Lib.hid (hn)
  clear hn
  generalize y3.heap.size = gHH at HH4 ⊢
  have cHR0 := cell_row HR4.out 0 _ rfl
  have cHR1 := cell_row HR4.out 1 _ rfl
  have cHR2 := cell_row HR4.out 2 _ rfl
  have cHR3 := cell_row HR4.out 3 _ rfl
  have cHR4 := cell_row HR4.out 4 _ rfl
  have cHR5 := cell_row HR4.out 5 _ rfl
  have cHP0 := cell_row HP4.out 0 _ rfl
  have cHP1 := cell_row HP4.out 1 _ rfl
  have cHP2 := cell_row HP4.out 2 _ rfl
  have cHQ0 := cell_row HQ4.out 0 _ rfl
  have cHQ1 := cell_row HQ4.out 1 _ rfl
  have cHQ2 := cell_row HQ4.out 2 _ rfl
  have cHS0 := cell_row HS4.out 0 _ rfl
  have cHS1 := cell_row HS4.out 1 _ rfl
  have cHS2 := cell_row HS4.out 2 _ rfl
  go_wp2_with fail
  refine (CT2.out _).mono ?_
  rintro e y5 ⟨rfl, hb⟩
  have HR5 := Lib.hid (vec_step HR4.out hb)
  have HX5 := Lib.hid (vec_step HX4.out hb)
  have HP5 := Lib.hid (vec_step HP4.out hb)
  have HQ5 := Lib.hid (vec_step HQ4.out hb)
  have HS5 := Lib.hid (vec_step HS4.out hb)
  have HC5 := Lib.hid (vec_step HC4.out hb)
  have HB5 := Lib.hid (HB4.out.trans (hb.mono HB4.out.size))
  have HH5 := Lib.hid (vec_step HH4.out hb)
  clear HR4 HX4 HP4 HQ4 HS4 HC4 HB4 HH4 hb cHR0 cHR1 cHR2 cHR3 cHR4 cHR5 cHP0 cHP1 cHP2 cHQ0 cHQ1 cHQ2 cHS0 cHS1 cHS2 
  go_upto_region 5 with (fail)
  have hx := ext_alloc y5 (.cells #[.int .i64 ht, .int .i64 hi_, .int .i64 hu, .int .i64 hv] 33)
  have hn := heap_alloc_new y5 (.cells #[.int .i64 ht, .int .i64 hi_, .int .i64 hu, .int .i64 hv] 33)
  obtain ⟨y6, hW⟩ : ∃ ww, ww = y5.alloc (.cells #[.int .i64 ht, .int .i64 hi_, .int .i64 hu, .int .i64 hv] 33) := ⟨_, rfl⟩
  rw [← hW] at hx hn ⊢
  clear hW
  have HR6 := Lib.hid (vec_step HR5.out hx)
  have HX6 := Lib.hid (vec_step HX5.out hx)
  have HP6 := Lib.hid (vec_step HP5.out hx)
  have HQ6 := Lib.hid (vec_step HQ5.out hx)
  have HS6 := Lib.hid (vec_step HS5.out hx)
  have HC6 := Lib.hid (vec_step HC5.out hx)
  have HB6 := Lib.hid (HB5.out.trans (hx.mono HB5.out.size))
  have HH6 := Lib.hid (vec_step HH5.out hx)
  clear HR5 HX5 HP5 HQ5 HS5 HC5 HB5 HH5 hx  
  have HK6 := Lib.hid (hn)
  clear hn
  generalize y5.heap.size = gHK at HK6 ⊢
  clear HX6 HP6 HQ6 HS6
  have cHR0 := cell_row HR6.out 0 _ rfl
  have cHR1 := cell_row HR6.out 1 _ rfl
  have cHR2 := cell_row HR6.out 2 _ rfl
  have cHR3 := cell_row HR6.out 3 _ rfl
  have cHR4 := cell_row HR6.out 4 _ rfl
  have cHR5 := cell_row HR6.out 5 _ rfl
  have cHC0 := cell_row HC6.out 0 _ rfl
  have cHC1 := cell_row HC6.out 1 _ rfl
  have cHC2 := cell_row HC6.out 2 _ rfl
  have cHC3 := cell_row HC6.out 3 _ rfl
  go_wp2_with fail
  refine (CL1.out _).mono ?_
  rintro e y7 ⟨rfl, hb⟩
  have HR7 := Lib.hid (vec_step HR6.out hb)
  have HC7 := Lib.hid (vec_step HC6.out hb)
  have HB7 := Lib.hid (HB6.out.trans (hb.mono HB6.out.size))
  have HH7 := Lib.hid (vec_step HH6.out hb)
  have HK7 := Lib.hid (vec_step HK6.out hb)
  clear HR6 HC6 HB6 HH6 HK6 hb cHR0 cHR1 cHR2 cHR3 cHR4 cHR5 cHC0 cHC1 cHC2 cHC3 
  have cHR0 := cell_row HR7.out 0 _ rfl
  have cHR1 := cell_row HR7.out 1 _ rfl
  have cHR2 := cell_row HR7.out 2 _ rfl
  have cHR3 := cell_row HR7.out 3 _ rfl
  have cHR4 := cell_row HR7.out 4 _ rfl
  have cHR5 := cell_row HR7.out 5 _ rfl
  have cHC0 := cell_row HC7.out 0 _ rfl
  have cHC1 := cell_row HC7.out 1 _ rfl
  have cHC2 := cell_row HC7.out 2 _ rfl
  have cHC3 := cell_row HC7.out 3 _ rfl
  go_wp2_with fail
  refine (CL2.out _).mono ?_
  rintro e y8 ⟨rfl, hb⟩
  have HR8 := Lib.hid (vec_step HR7.out hb)
  have HC8 := Lib.hid (vec_step HC7.out hb)
  have HB8 := Lib.hid (HB7.out.trans (hb.mono HB7.out.size))
  have HH8 := Lib.hid (vec_step HH7.out hb)
  have HK8 := Lib.hid (vec_step HK7.out hb)
  clear HR7 HC7 HB7 HH7 HK7 hb cHR0 cHR1 cHR2 cHR3 cHR4 cHR5 cHC0 cHC1 cHC2 cHC3 
  clear CB1 CB2 CT1 CT2 CL1 CL2
  have cHH0 := cell_row HH8.out 0 _ rfl
  have cHH1 := cell_row HH8.out 1 _ rfl
  have cHH2 := cell_row HH8.out 2 _ rfl
  have cHH3 := cell_row HH8.out 3 _ rfl
  have cHK0 := cell_row HK8.out 0 _ rfl
  have cHK1 := cell_row HK8.out 1 _ rfl
  have cHK2 := cell_row HK8.out 2 _ rfl
  have cHK3 := cell_row HK8.out 3 _ rfl
  go_wp2_with fail
  refine (awake_any _).mono ?_
  rintro e y9 ⟨rfl, hb⟩
  have HR9 := Lib.hid (vec_step HR8.out hb)
  have HC9 := Lib.hid (vec_step HC8.out hb)
  have HB9 := Lib.hid (HB8.out.trans (hb.mono HB8.out.size))
  have HH9 := Lib.hid (vec_step HH8.out hb)
  have HK9 := Lib.hid (vec_step HK8.out hb)
  clear HR8 HC8 HB8 HH8 HK8 hb cHH0 cHH1 cHH2 cHH3 cHK0 cHK1 cHK2 cHK3 
  go_wp2_with fail
  go_ret
  exact ⟨rfl, HB9.out⟩

theorem hit_in {m : Msh} {i : Int} {r : Ry} {least : Int} (hi : In i) {h : Ht} (e : shapeF m i r least = some h) : In h.i := by
  rw [(shape_i e).1]; exact hi

theorem in_max {a b : Int} (ha : In a) (hb : In b) : In (maxI a b) := by unfold maxI; split <;> assumption
theorem side_in {o d lo hi : Int} {s s' : Int × Int} (hs : In s.1) (h : sideF o d lo hi s = some s') : In s'.1 := by
  unfold sideF at h
  split at h
  · split at h
    · cases h; exact hs
    · cases h
  · cases h
    refine in_max hs ?_
    unfold loF divF
    (repeat' split) <;> exact clamp_in _
theorem box_in {r : Ry} {b : Bx} {t : Int} (h : boxH r b = some t) : In t := by
  unfold boxH at h
  cases h1 : sideF r.o.x r.d.x b.lo.x b.hi.x (0, MOST) with
  | none => rw [h1] at h; cases h
  | some s1 =>
    have i1 : In s1.1 := side_in ⟨by decide, by decide⟩ h1
    rw [h1, Option.bind_some] at h
    cases h2 : sideF r.o.y r.d.y b.lo.y b.hi.y s1 with
    | none => rw [h2] at h; cases h
    | some s2 =>
      have i2 := side_in i1 h2
      rw [h2, Option.bind_some] at h
      cases h3 : sideF r.o.z r.d.z b.lo.z b.hi.z s2 with
      | none => rw [h3] at h; cases h
      | some s3 =>
        have i3 := side_in i2 h3
        rw [h3, Option.bind_some] at h
        split at h
        · cases h; exact i3
        · cases h
theorem in_div (a b : Int) : In (divF a b) := by
  unfold divF
  (repeat' split) <;> first | exact clamp_in _ | exact ⟨by decide, by decide⟩
theorem shape_t {m : Msh} {i : Int} {r : Ry} {least : Int} {h : Ht} (e : shapeF m i r least = some h) : In h.t := by
  unfold shapeF at e
  split at e
  · cases e
  split at e
  · unfold ballShapeF at e
    cases h1 : boxH r (boxF m i) with
    | none => rw [h1] at e; cases e
    | some near =>
      have ni := box_in h1
      rw [h1, Option.bind_some] at e
      cases h2 : ballH r (ballAt m i) with
      | none => rw [h2] at e; cases e
      | some p =>
        rw [h2, Option.bind_some] at e
        unfold ballH at h2
        split at h2
        · cases h2
        · cases h2
          unfold pickF at e
          split at e
          · cases e; exact in_max (in_div _ _) ni
          · split at e
            · cases e; exact in_max (in_div _ _) ni
            · cases e
  · unfold triShapeF at e
    cases h0 : cornersF m i with
    | none => rw [h0] at e; cases e
    | some c =>
      rw [h0, Option.bind_some] at e
      cases h1 : boxH r (boxF m i) with
      | none => rw [h1] at e; cases e
      | some near =>
        have ni := box_in h1
        rw [h1, Option.bind_some] at e
        cases h2 : triH r c.1 c.2.1 c.2.2 with
        | none => rw [h2] at e; cases e
        | some h =>
          rw [h2, Option.bind_some] at e
          have it : In h.t := by
            unfold triH at h2
            (repeat' split at h2) <;> first | (cases h2; exact in_div _ _) | cases h2
          split at e
          · cases e
          · cases e; exact in_max it ni
theorem get_in {m : Msh} {i : Int} {r : Ry} {least : Int} (hi : In i) : In ((shapeF m i r least).getD htN).i ∧ In ((shapeF m i r least).getD htN).t := by
  cases e : shapeF m i r least with
  | none => exact ⟨⟨by decide, by decide⟩, by decide, by decide⟩
  | some h => exact ⟨hit_in hi e, shape_t e⟩
set_option maxRecDepth 100000 in
set_option maxHeartbeats 16000000 in
theorem hitTells_any (v : Value) (m : Msh) (w : World) (hm : IsMesh w v m) (ok : m.ok) (r : Ry) (hr : r.ok) (least : Int) (h : Ht) (hh : In h.t ∧ In h.i) : Calls Try.prog 5 #[v, rayV r, .int .i64 least, hitV h] w (AwTo w) := by
  have CSM := Lib.hid (fun w2 (hb : Below w.heap.size w w2) => smallMesh_any v m w2 (hm.below hb) 40)
  by_cases hs : (decide ((m.ps.length : Int) ≤ 40) && decide ((m.ts.length : Int) ≤ 40) && decide ((m.bs.length : Int) ≤ 40)) = true
  · rw [hs] at CSM
    simp only [Bool.and_eq_true, decide_eq_true_eq] at hs
    have hl : m.ts.length + m.bs.length ≤ 9223372036854775807 := by omega
    have CS1 := Lib.hid (fun w2 (hb : Below w.heap.size w w2) i hi => shape_any v m w2 (hm.below hb) ok hl i hi r hr least)
    have CS2 := Lib.hid (fun w2 (hb : Below w.heap.size w w2) i hi => rshape_any v m w2 (hm.below hb) ok hl i hi r hr least)
    have CN1 := Lib.hid (fun w2 (hb : Below w.heap.size w w2) i (h : In i) => normal_any v m w2 (hm.below hb) ok hl ((shapeF m i r least).getD htN) (get_in h).1 (get_in h).2 r hr)
    have CN2 := Lib.hid (fun w2 (hb : Below w.heap.size w w2) i (h : In i) => rnormal_any v m w2 (hm.below hb) ok hl ((shapeF m i r least).getD htN) (get_in h).1 (get_in h).2 r hr)
    have CH1 := Lib.hid (fun w2 (hb : Below w.heap.size w w2) => normal_any v m w2 (hm.below hb) ok hl h hh.2 hh.1 r hr)
    have CH2 := Lib.hid (fun w2 (hb : Below w.heap.size w w2) => rnormal_any v m w2 (hm.below hb) ok hl h hh.2 hh.1 r hr)
    have CC1 := Lib.hid (fun w2 (hb : Below w.heap.size w w2) => scan_any v m w2 (hm.below hb) ok hl r hr least)
    have CC2 := Lib.hid (fun w2 (hb : Below w.heap.size w w2) => rscan_any v m w2 (hm.below hb) ok hl r hr least)
    obtain ⟨NN, hNN⟩ : ∃ zz : Int, zz = (m.ts.length : Int) + (m.bs.length : Int) := ⟨_, rfl⟩
    have wN : IntKind.i64.wrap ((m.ts.length : Int) + (m.bs.length : Int)) = NN := by rw [wrap_in (by omega) (by omega), hNN]
    have HNN := Lib.hid (show 0 ≤ NN ∧ NN ≤ 80 by omega)
    obtain ⟨a0, c0, a1, c1, a2, c2, rfl, -⟩ := hm.open_
    clear hm ok hr hh hs hl hNN
    unfold shapeR at CS1 CS2
    generalize scanF m r least = sc at CC1 CC2
    generalize normalF m h r = nh at CH1 CH2
    obtain ⟨shp, hshp⟩ : ∃ zz : Int → Ht, zz = fun i => (shapeF m i r least).getD htN := ⟨_, rfl⟩
    obtain ⟨sok, hsok⟩ : ∃ zz : Int → Bool, zz = fun i => (shapeF m i r least).isSome := ⟨_, rfl⟩
    obtain ⟨nrm, hnrm⟩ : ∃ zz : Int → V3, zz = fun i => normalF m ((shapeF m i r least).getD htN) r := ⟨_, rfl⟩
    have DS1 : Hid (∀ w2, Below w.heap.size w w2 → ∀ i, In i → Calls Try.prog 15 #[.agg #[.slice a0 m.ps.length c0, .slice a1 m.ts.length c1, .slice a2 m.bs.length c2], .int .i64 i, rayV r, .int .i64 least] w2 (VTo (.tuple #[hitV (shp i), .bool (sok i)]) w2)) := Lib.hid (by rw [hshp, hsok]; exact CS1.out)
    have DS2 : Hid (∀ w2, Below w.heap.size w w2 → ∀ i, In i → Calls Try.prog 22 #[.agg #[.slice a0 m.ps.length c0, .slice a1 m.ts.length c1, .slice a2 m.bs.length c2], .int .i64 i, rayV r, .int .i64 least] w2 (VTo (.tuple #[hitV (shp i), .bool (sok i)]) w2)) := Lib.hid (by rw [hshp, hsok]; exact CS2.out)
    have DN1 : Hid (∀ w2, Below w.heap.size w w2 → ∀ i, In i → Calls Try.prog 16 #[.agg #[.slice a0 m.ps.length c0, .slice a1 m.ts.length c1, .slice a2 m.bs.length c2], hitV (shp i), rayV r] w2 (VTo (vecV (nrm i)) w2)) := Lib.hid (by rw [hshp, hnrm]; exact CN1.out)
    have DN2 : Hid (∀ w2, Below w.heap.size w w2 → ∀ i, In i → Calls Try.prog 23 #[.agg #[.slice a0 m.ps.length c0, .slice a1 m.ts.length c1, .slice a2 m.bs.length c2], hitV (shp i), rayV r] w2 (VTo (vecV (nrm i)) w2)) := Lib.hid (by rw [hshp, hnrm]; exact CN2.out)
    clear hshp hsok hnrm CS1 CS2 CN1 CN2
    obtain ⟨⟨oX, oY, oZ⟩, ⟨dX, dY, dZ⟩⟩ := r
    obtain ⟨gt, gi, gu, gv⟩ := h
    obtain ⟨st, si, su, sv⟩ := sc
    obtain ⟨nX, nY, nZ⟩ := nh
    dsimp only [rayV, hitV, vecV] at *
    obtain ⟨hA, hB_, hC, hB0⟩ := al3h w (.cells #[.slice a0 m.ps.length c0, .slice a1 m.ts.length c1, .slice a2 m.bs.length c2] 44) (.cells #[.int .i64 oX, .int .i64 oY, .int .i64 oZ, .int .i64 dX, .int .i64 dY, .int .i64 dZ] 25) (.cells #[.int .i64 gt, .int .i64 gi, .int .i64 gu, .int .i64 gv] 33)
    obtain ⟨W, hW⟩ : ∃ ww, ww = ((w.alloc (.cells #[.slice a0 m.ps.length c0, .slice a1 m.ts.length c1, .slice a2 m.bs.length c2] 44)).alloc (.cells #[.int .i64 oX, .int .i64 oY, .int .i64 oZ, .int .i64 dX, .int .i64 dY, .int .i64 dZ] 25)).alloc (.cells #[.int .i64 gt, .int .i64 gi, .int .i64 gu, .int .i64 gv] 33) := ⟨_, rfl⟩
    rw [← hW] at hA hB_ hC hB0
    have HR0 := Lib.hid hA
    have HY0 := Lib.hid hB_
    have HG0 := Lib.hid hC
    have HB0 := Lib.hid hB0
    have HWW := Lib.hid hW
    clear hA hB_ hC hB0 hW
    go_enter Try.func5, Try.ntmps5
    go_upto_region 1 with (fail)
    rw [← HWW.out]
    clear HWW
    have cHR0 := cell_row HR0.out 0 _ rfl
    have cHR1 := cell_row HR0.out 1 _ rfl
    have cHR2 := cell_row HR0.out 2 _ rfl
    go_wp2_with fail
    refine (CSM.out _ HB0.out).mono ?_
    rintro e y10 ⟨rfl, hb⟩
    have HR1 := Lib.hid (vec_step HR0.out hb)
    have HY1 := Lib.hid (vec_step HY0.out hb)
    have HG1 := Lib.hid (vec_step HG0.out hb)
    have HB1 := Lib.hid (HB0.out.trans (hb.mono HB0.out.size))
    clear HR0 HY0 HG0 HB0 hb cHR0 cHR1 cHR2 CSM
    go_wp2_with fail
    go_loopg [9] ((NN + 2).toNat) (fun r n9 wr => ∃ i : Int, -1 ≤ i ∧ i + (r : Int) = NN + 1 ∧ n9 = .int .i64 i ∧ Hid (Below y10.heap.size y10 wr))
    case atStart => exact ⟨-1, by omega, by have := HNN.out; omega, rfl, Lib.hid (Below.refl _ _)⟩
    case round =>
      obtain ⟨i, hi1, hi2, rfl, hin⟩ := hrel
      have hb := hin.out
      have HW0 := hin
      clear hin
      have HR2 := Lib.hid (vec_step HR1.out hb)
      have HY2 := Lib.hid (vec_step HY1.out hb)
      have HG2 := Lib.hid (vec_step HG1.out hb)
      have HB2 := Lib.hid (HB1.out.trans (hb.mono HB1.out.size))
      clear HR1 HY1 HG1 HB1 hb  
      by_cases hk : i ≤ NN
      · have d2 : decide (i ≤ NN) = true := decide_eq_true hk
        have HAR := Lib.hid (show In i ∧ -1 ≤ i + 1 ∧ i + 1 + ((gk - 1 : Nat) : Int) = NN + 1 ∧ gk - 1 < gk by have := HNN.out; unfold In; omega)
        have wi : IntKind.i64.wrap (i + 1) = i + 1 := by have := HNN.out; rw [wrap_in (by omega) (by omega)]
        have ES1 := Lib.hid (fun w2 hb => DS1.out w2 hb i HAR.out.1)
        have ES2 := Lib.hid (fun w2 hb => DS2.out w2 hb i HAR.out.1)
        have EN1 := Lib.hid (fun w2 hb => DN1.out w2 hb i HAR.out.1)
        have EN2 := Lib.hid (fun w2 hb => DN2.out w2 hb i HAR.out.1)
        generalize shp i = si_ at ES1 ES2 EN1 EN2
        generalize sok i = ki at ES1 ES2
        generalize nrm i = ni at EN1 EN2
        obtain ⟨ht, hi_, hu, hv⟩ := si_
        obtain ⟨mX, mY, mZ⟩ := ni
        dsimp only at ES1 ES2 EN1 EN2
        have SHH := same_hit ht hi_ hu hv
        have SVV := same_vec mX mY mZ
        have HL2 := HW0
        clear hk hi1 hi2 HW0
        have cHR0 := cell_row HR2.out 0 _ rfl
        have cHR1 := cell_row HR2.out 1 _ rfl
        have cHR2 := cell_row HR2.out 2 _ rfl
        have cHY0 := cell_row HY2.out 0 _ rfl
        have cHY1 := cell_row HY2.out 1 _ rfl
        have cHY2 := cell_row HY2.out 2 _ rfl
        have cHY3 := cell_row HY2.out 3 _ rfl
        have cHY4 := cell_row HY2.out 4 _ rfl
        have cHY5 := cell_row HY2.out 5 _ rfl
        go_wp2_with fail
        refine (ES1.out _ HB2.out).mono ?_
        rintro e y11 ⟨rfl, hb⟩
        have HL3 := Lib.hid (HL2.out.trans (hb.mono HL2.out.size))
        have HR3 := Lib.hid (vec_step HR2.out hb)
        have HY3 := Lib.hid (vec_step HY2.out hb)
        have HG3 := Lib.hid (vec_step HG2.out hb)
        have HB3 := Lib.hid (HB2.out.trans (hb.mono HB2.out.size))
        clear HR2 HY2 HG2 HB2 hb cHR0 cHR1 cHR2 cHY0 cHY1 cHY2 cHY3 cHY4 cHY5 HL2 ES1
        go_upto_region 7 with (fail)
        have hx := ext_alloc y11 (.cells #[.int .i64 ht, .int .i64 hi_, .int .i64 hu, .int .i64 hv] 33)
        have hn := heap_alloc_new y11 (.cells #[.int .i64 ht, .int .i64 hi_, .int .i64 hu, .int .i64 hv] 33)
        obtain ⟨y12, hW⟩ : ∃ ww, ww = y11.alloc (.cells #[.int .i64 ht, .int .i64 hi_, .int .i64 hu, .int .i64 hv] 33) := ⟨_, rfl⟩
        rw [← hW] at hx hn ⊢
        clear hW
        have HL4 := Lib.hid (HL3.out.trans (hx.mono HL3.out.size))
        have HR4 := Lib.hid (vec_step HR3.out hx)
        have HY4 := Lib.hid (vec_step HY3.out hx)
        have HG4 := Lib.hid (vec_step HG3.out hx)
        have HB4 := Lib.hid (HB3.out.trans (hx.mono HB3.out.size))
        clear HR3 HY3 HG3 HB3 hx  HL3 
        have HH4 := Lib.hid (hn)
        clear hn
        generalize y11.heap.size = gHH at HH4 ⊢
        have cHR0 := cell_row HR4.out 0 _ rfl
        have cHR1 := cell_row HR4.out 1 _ rfl
        have cHR2 := cell_row HR4.out 2 _ rfl
        have cHY0 := cell_row HY4.out 0 _ rfl
        have cHY1 := cell_row HY4.out 1 _ rfl
        have cHY2 := cell_row HY4.out 2 _ rfl
        have cHY3 := cell_row HY4.out 3 _ rfl
        have cHY4 := cell_row HY4.out 4 _ rfl
        have cHY5 := cell_row HY4.out 5 _ rfl
        go_wp2_with fail
        refine (ES2.out _ HB4.out).mono ?_
        rintro e y13 ⟨rfl, hb⟩
        have HL5 := Lib.hid (HL4.out.trans (hb.mono HL4.out.size))
        have HR5 := Lib.hid (vec_step HR4.out hb)
        have HY5 := Lib.hid (vec_step HY4.out hb)
        have HG5 := Lib.hid (vec_step HG4.out hb)
        have HB5 := Lib.hid (HB4.out.trans (hb.mono HB4.out.size))
        have HH5 := Lib.hid (vec_step HH4.out hb)
        clear HR4 HY4 HG4 HB4 HH4 hb cHR0 cHR1 cHR2 cHY0 cHY1 cHY2 cHY3 cHY4 cHY5 HL4 ES2
        go_upto_region 8 with (fail)
        have hx := ext_alloc y13 (.cells #[.int .i64 ht, .int .i64 hi_, .int .i64 hu, .int .i64 hv] 33)
        have hn := heap_alloc_new y13 (.cells #[.int .i64 ht, .int .i64 hi_, .int .i64 hu, .int .i64 hv] 33)
        obtain ⟨y14, hW⟩ : ∃ ww, ww = y13.alloc (.cells #[.int .i64 ht, .int .i64 hi_, .int .i64 hu, .int .i64 hv] 33) := ⟨_, rfl⟩
        rw [← hW] at hx hn ⊢
        clear hW
        have HL6 := Lib.hid (HL5.out.trans (hx.mono HL5.out.size))
        have HR6 := Lib.hid (vec_step HR5.out hx)
        have HY6 := Lib.hid (vec_step HY5.out hx)
        have HG6 := Lib.hid (vec_step HG5.out hx)
        have HB6 := Lib.hid (HB5.out.trans (hx.mono HB5.out.size))
        have HH6 := Lib.hid (vec_step HH5.out hx)
        clear HR5 HY5 HG5 HB5 HH5 hx  HL5 
        have HK6 := Lib.hid (hn)
        clear hn
        generalize y13.heap.size = gHK at HK6 ⊢
        have Q1 := Lib.hid (qb (P := Try.prog) (W := y14) (fun w2 hb => EN1.out w2 (HB6.out.trans (hb.mono HB6.out.size))))
        have Q2 := Lib.hid (qb (P := Try.prog) (W := y14) (fun w2 hb => EN2.out w2 (HB6.out.trans (hb.mono HB6.out.size))))
        have fHR0 := fun d os => cell_regrown (cell_row HR6.out 0 _ rfl) d os
        have fHR1 := fun d os => cell_regrown (cell_row HR6.out 1 _ rfl) d os
        have fHR2 := fun d os => cell_regrown (cell_row HR6.out 2 _ rfl) d os
        have fHY0 := fun d os => cell_regrown (cell_row HY6.out 0 _ rfl) d os
        have fHY1 := fun d os => cell_regrown (cell_row HY6.out 1 _ rfl) d os
        have fHY2 := fun d os => cell_regrown (cell_row HY6.out 2 _ rfl) d os
        have fHY3 := fun d os => cell_regrown (cell_row HY6.out 3 _ rfl) d os
        have fHY4 := fun d os => cell_regrown (cell_row HY6.out 4 _ rfl) d os
        have fHY5 := fun d os => cell_regrown (cell_row HY6.out 5 _ rfl) d os
        have fHH0 := fun d os => cell_regrown (cell_row HH6.out 0 _ rfl) d os
        have fHH1 := fun d os => cell_regrown (cell_row HH6.out 1 _ rfl) d os
        have fHH2 := fun d os => cell_regrown (cell_row HH6.out 2 _ rfl) d os
        have fHH3 := fun d os => cell_regrown (cell_row HH6.out 3 _ rfl) d os
        have fHK0 := fun d os => cell_regrown (cell_row HK6.out 0 _ rfl) d os
        have fHK1 := fun d os => cell_regrown (cell_row HK6.out 1 _ rfl) d os
        have fHK2 := fun d os => cell_regrown (cell_row HK6.out 2 _ rfl) d os
        have fHK3 := fun d os => cell_regrown (cell_row HK6.out 3 _ rfl) d os
        refine wp_region_quiet_below (by kernel_rfl) (by kernel_rfl) ?_
        repeat (go_big_quiet_step (first | (with_reducible exact Q1.out _ _) | (with_reducible exact Q2.out _ _)))
        refine wpQuiet_nil ?_
        first | (rintro _ ⟨⟨dq, osq⟩, rfl⟩) | (rintro ⟨dq, osq⟩)
        have hb := below_regrown y14 dq osq
        obtain ⟨y15, hW⟩ : ∃ ww, ww = grow (redrawn y14 dq) osq := ⟨_, rfl⟩
        rw [← hW] at hb ⊢
        clear hW
        have HL7 := Lib.hid (HL6.out.trans (hb.mono HL6.out.size))
        have HR7 := Lib.hid (vec_step HR6.out hb)
        have HY7 := Lib.hid (vec_step HY6.out hb)
        have HG7 := Lib.hid (vec_step HG6.out hb)
        have HB7 := Lib.hid (HB6.out.trans (hb.mono HB6.out.size))
        have HH7 := Lib.hid (vec_step HH6.out hb)
        have HK7 := Lib.hid (vec_step HK6.out hb)
        clear HR6 HY6 HG6 HB6 HH6 HK6 hb  HL6 fHR0 fHR1 fHR2 fHY0 fHY1 fHY2 fHY3 fHY4 fHY5 fHH0 fHH1 fHH2 fHH3 fHK0 fHK1 fHK2 fHK3
        clear Q1 Q2 EN1 EN2
        go_wp2_with fail
        go_roundg (gk - 1)
        case measure => exact HAR.out.2.2.2
        case rel => exact ⟨i + 1, HAR.out.2.1, HAR.out.2.2.1, rfl, Lib.hid HL7.out⟩
      · have d2 : decide (i ≤ NN) = false := decide_eq_false hk
        have SHH := same_hit st si su sv
        have SVV := same_vec nX nY nZ
        clear hk hi1 hi2 HW0
        have cHR1 := cell_row HR2.out 1 _ rfl
        have cHR2 := cell_row HR2.out 2 _ rfl
        go_upto_region 10 with (fail)
        have Q1 := Lib.hid (qb (P := Try.prog) (W := wr) (fun w2 hb => CC1.out w2 (HB2.out.trans (hb.mono HB2.out.size))))
        have Q2 := Lib.hid (qb (P := Try.prog) (W := wr) (fun w2 hb => CC2.out w2 (HB2.out.trans (hb.mono HB2.out.size))))
        have Q3 := Lib.hid (qb (P := Try.prog) (W := wr) (fun w2 hb => CH1.out w2 (HB2.out.trans (hb.mono HB2.out.size))))
        have Q4 := Lib.hid (qb (P := Try.prog) (W := wr) (fun w2 hb => CH2.out w2 (HB2.out.trans (hb.mono HB2.out.size))))
        have Q5 := Lib.hid (qb (P := Try.prog) (W := wr) (v := .bool true) (fun w2 hb => awake_any w2))
        clear cHR1 cHR2
        have fHR0 := fun d os => cell_regrown (cell_row HR2.out 0 _ rfl) d os
        have fHR1 := fun d os => cell_regrown (cell_row HR2.out 1 _ rfl) d os
        have fHR2 := fun d os => cell_regrown (cell_row HR2.out 2 _ rfl) d os
        have fHY0 := fun d os => cell_regrown (cell_row HY2.out 0 _ rfl) d os
        have fHY1 := fun d os => cell_regrown (cell_row HY2.out 1 _ rfl) d os
        have fHY2 := fun d os => cell_regrown (cell_row HY2.out 2 _ rfl) d os
        have fHY3 := fun d os => cell_regrown (cell_row HY2.out 3 _ rfl) d os
        have fHY4 := fun d os => cell_regrown (cell_row HY2.out 4 _ rfl) d os
        have fHY5 := fun d os => cell_regrown (cell_row HY2.out 5 _ rfl) d os
        have fHG0 := fun d os => cell_regrown (cell_row HG2.out 0 _ rfl) d os
        have fHG1 := fun d os => cell_regrown (cell_row HG2.out 1 _ rfl) d os
        have fHG2 := fun d os => cell_regrown (cell_row HG2.out 2 _ rfl) d os
        have fHG3 := fun d os => cell_regrown (cell_row HG2.out 3 _ rfl) d os
        refine wp_region_quiet_below (by kernel_rfl) (by kernel_rfl) ?_
        repeat (go_big_quiet_step (first | (with_reducible exact Q1.out _ _) | (with_reducible exact Q2.out _ _) | (with_reducible exact Q3.out _ _) | (with_reducible exact Q4.out _ _) | (with_reducible exact Q5.out _ _)))
        refine wpQuiet_nil ?_
        first | (rintro _ ⟨⟨dq, osq⟩, rfl⟩) | (rintro ⟨dq, osq⟩)
        have hb := below_regrown wr dq osq
        obtain ⟨y16, hW⟩ : ∃ ww, ww = grow (redrawn wr dq) osq := ⟨_, rfl⟩
        rw [← hW] at hb ⊢
        clear hW
        have HR3 := Lib.hid (vec_step HR2.out hb)
        have HY3 := Lib.hid (vec_step HY2.out hb)
        have HG3 := Lib.hid (vec_step HG2.out hb)
        have HB3 := Lib.hid (HB2.out.trans (hb.mono HB2.out.size))
        clear HR2 HY2 HG2 HB2 hb  fHR0 fHR1 fHR2 fHY0 fHY1 fHY2 fHY3 fHY4 fHY5 fHG0 fHG1 fHG2 fHG3
        go_wp2_with fail
        go_ret
        exact ⟨rfl, HB3.out⟩
  · have hs2 : (decide ((m.ps.length : Int) ≤ 40) && decide ((m.ts.length : Int) ≤ 40) && decide ((m.bs.length : Int) ≤ 40)) = false := by simpa using hs
    rw [hs2] at CSM
    obtain ⟨a0, c0, a1, c1, a2, c2, rfl, -⟩ := hm.open_
    clear hm ok hr hh hs hs2
    obtain ⟨⟨oX, oY, oZ⟩, ⟨dX, dY, dZ⟩⟩ := r
    obtain ⟨gt, gi, gu, gv⟩ := h
    dsimp only [rayV, hitV] at *
    obtain ⟨hA, hB_, hC, hB0⟩ := al3h w (.cells #[.slice a0 m.ps.length c0, .slice a1 m.ts.length c1, .slice a2 m.bs.length c2] 44) (.cells #[.int .i64 oX, .int .i64 oY, .int .i64 oZ, .int .i64 dX, .int .i64 dY, .int .i64 dZ] 25) (.cells #[.int .i64 gt, .int .i64 gi, .int .i64 gu, .int .i64 gv] 33)
    obtain ⟨W, hW⟩ : ∃ ww, ww = ((w.alloc (.cells #[.slice a0 m.ps.length c0, .slice a1 m.ts.length c1, .slice a2 m.bs.length c2] 44)).alloc (.cells #[.int .i64 oX, .int .i64 oY, .int .i64 oZ, .int .i64 dX, .int .i64 dY, .int .i64 dZ] 25)).alloc (.cells #[.int .i64 gt, .int .i64 gi, .int .i64 gu, .int .i64 gv] 33) := ⟨_, rfl⟩
    rw [← hW] at hA hB_ hC hB0
    have HR0 := Lib.hid hA
    have HB0 := Lib.hid hB0
    have HWW := Lib.hid hW
    clear hA hB_ hC hB0 hW
    go_enter Try.func5, Try.ntmps5
    go_upto_region 1 with (fail)
    rw [← HWW.out]
    clear HWW
    have cHR0 := cell_row HR0.out 0 _ rfl
    have cHR1 := cell_row HR0.out 1 _ rfl
    have cHR2 := cell_row HR0.out 2 _ rfl
    go_wp2_with fail
    refine (CSM.out _ HB0.out).mono ?_
    rintro e y17 ⟨rfl, hb⟩
    have HR1 := Lib.hid (vec_step HR0.out hb)
    have HB1 := Lib.hid (HB0.out.trans (hb.mono HB0.out.size))
    clear HR0 HB0 hb cHR0 cHR1 cHR2 CSM
    go_wp2_with fail
    refine (awake_any _).mono ?_
    rintro e y18 ⟨rfl, hb⟩
    have HR2 := Lib.hid (vec_step HR1.out hb)
    have HB2 := Lib.hid (HB1.out.trans (hb.mono HB1.out.size))
    clear HR1 HB1 hb  
    go_wp2_with fail
    go_ret
    exact ⟨rfl, HB2.out⟩

end Go.Proofs.Ytdmmbhcaejojeaa.HitQ
