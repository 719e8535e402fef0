/- The walk of HitNearest. -/
import Derived.Test.YtdmmbhcaejojeaaHitQ
import Derived.Test.YtdmmbhcaejojeaaHitU
set_option linter.unusedVariables false
set_option linter.unusedSimpArgs false
namespace Go.Proofs.Ytdmmbhcaejojeaa.HitL
open Go.RowKit Go.Sort FixM Base Num FixW Qb Qt Qa Qf Qg VecW VecV VecU LightQ LightC MeshM Rec MeshA MeshB MeshC MeshD MeshE MeshP MeshEq HitM HitT HitB HitX HitN HitC HitS HitV HitP HitR HitR2 HitR3 HitR4 HitEq HitZ HitQ HitO HitU
set_option maxRecDepth 100000 in
set_option maxHeartbeats 16000000 in
theorem hitNearest_any (v : Value) (m : Msh) (w : World) (hm : IsMesh w v m) (ok : m.ok) (r : Ry) (hr : r.ok) (least more : Int) : Calls Try.prog 7 #[v, rayV r, .int .i64 least, .int .i64 more] w (AwTo w) := by
  have CSM := Lib.hid (fun w2 (hb : Below w.heap.size w w2) => smallMesh_any v m w2 (hm.below hb) 40)
  by_cases hs : (decide ((m.ps.length : Int) ≤ 40) && decide ((m.ts.length : Int) ≤ 40) && decide ((m.bs.length : Int) ≤ 40)) = true
  · rw [hs] at CSM
    simp only [Bool.and_eq_true, decide_eq_true_eq] at hs
    have hl : m.ts.length + m.bs.length ≤ 9223372036854775807 := by omega
    obtain ⟨mo, hmo⟩ : ∃ zz, zz = maxI least more := ⟨_, rfl⟩
    have MX := max2_at hmo
    have CCN := Lib.hid (fun w2 (hb : Below w.heap.size w w2) => count_any v m w2 (hm.below hb) hl)
    have CS := Lib.hid (fun w2 (hb : Below w.heap.size w w2) (k : Nat) (hk : k < m.ts.length + m.bs.length) => shape_any v m w2 (hm.below hb) ok hl (k : Int) ⟨by omega, by omega⟩ r hr least)
    have CBX := Lib.hid (fun w2 (hb : Below w.heap.size w w2) (k : Nat) (hk : k < m.ts.length + m.bs.length) => MeshP.box_any v m w2 (hm.below hb) ok hl (k : Int) ⟨by omega, by omega⟩)
    have CHB := Lib.hid (fun w2 (k : Nat) => hbox_any r (boxF m (k : Int)) hr (ok_box m ok (k : Int)) w2)
    have CC1 := Lib.hid (fun w2 (hb : Below w.heap.size w w2) => scan_any v m w2 (hm.below hb) ok hl r hr least)
    have CC2 := Lib.hid (fun w2 (hb : Below w.heap.size w w2) => scan_any v m w2 (hm.below hb) ok hl r hr mo)
    have FT := Lib.hid (far_told m r (show least ≤ mo by rw [hmo]; unfold maxI; split <;> omega))
    have BT := Lib.hid (best_told m r least)
    have NT := Lib.hid (fun k hk => none_told m r least k hk)
    have ST := Lib.hid (fun k hk h => @some_told m r least k hk h)
    have SN := Lib.hid (fun (k : Nat) h => @shape_near m (k : Int) r least h)
    obtain ⟨a0, c0, a1, c1, a2, c2, rfl, -⟩ := hm.open_
    clear hm ok hr hs hmo
    unfold shapeR at CS
    unfold boxR at CHB
    generalize scanF m r least = sc at CC1 FT BT NT ST
    generalize scanF m r mo = fr at CC2 FT
    obtain ⟨shp, hshp⟩ : ∃ zz : Nat → Option Ht, zz = fun k : Nat => shapeF m (k : Int) r least := ⟨_, rfl⟩
    obtain ⟨bxs, hbxs⟩ : ∃ zz : Nat → Bx, zz = fun k : Nat => boxF m (k : Int) := ⟨_, rfl⟩
    obtain ⟨brs, hbrs⟩ : ∃ zz : Nat → Option Int, zz = fun k : Nat => boxH r (boxF m (k : Int)) := ⟨_, rfl⟩
    obtain ⟨N, hN⟩ : ∃ zz, zz = m.ts.length + m.bs.length := ⟨_, rfl⟩
    have DS : Hid (∀ w2, Below w.heap.size w w2 → ∀ k : Nat, k < N → Calls Try.prog 15 #[.agg #[.slice a0 m.ps.length c0, .slice a1 m.ts.length c1, .slice a2 m.bs.length c2], .int .i64 (k : Int), rayV r, .int .i64 least] w2 (VTo (.tuple #[hitV ((shp k).getD htN), .bool (shp k).isSome]) w2)) := Lib.hid (by rw [hshp, hN]; exact CS.out)
    have DBX : Hid (∀ w2, Below w.heap.size w w2 → ∀ k : Nat, k < N → Calls Try.prog 27 #[.agg #[.slice a0 m.ps.length c0, .slice a1 m.ts.length c1, .slice a2 m.bs.length c2], .int .i64 (k : Int)] w2 (VTo (boxV (bxs k)) w2)) := Lib.hid (by rw [hbxs, hN]; exact CBX.out)
    have DHB : Hid (∀ w2, ∀ k : Nat, Calls Try.prog 10 #[rayV r, boxV (bxs k)] w2 (VTo (.tuple #[.int .i64 ((brs k).getD 0), .bool (brs k).isSome]) w2)) := Lib.hid (by rw [hbxs, hbrs]; exact CHB.out)
    have NT2 : Hid (∀ k : Nat, k < N → shp k = none → ¬ (k : Int) = sc.i) := Lib.hid (by rw [hshp, hN]; exact NT.out)
    have ST2 : Hid (∀ k : Nat, k < N → ∀ h, shp k = some h → h.i = (k : Int) ∧ 0 ≤ sc.i ∧ (sc.t < h.t ∨ sc.t = h.t ∧ sc.i ≤ (k : Int)) ∧ ((k : Int) = sc.i → h = sc) ∧ least ≤ h.t) := Lib.hid (by rw [hshp, hN]; exact fun k hk h e => ST.out k hk h e)
    have SN2 : Hid (∀ (k : Nat) h, shp k = some h → ∃ near, brs k = some near ∧ near ≤ h.t) := Lib.hid (by rw [hshp, hbrs]; exact fun k h e => SN.out k h e)
    rw [← hN] at CCN hl
    have BT2 : Hid (-1 ≤ sc.i ∧ sc.i < (N : Int)) := Lib.hid (by rw [hN]; have := BT.out; omega)
    clear hshp hbxs hbrs hN CS CBX CHB NT ST SN BT
    obtain ⟨⟨oX, oY, oZ⟩, ⟨dX, dY, dZ⟩⟩ := r
    obtain ⟨bt, bi, bu, bv⟩ := sc
    obtain ⟨ft, fi, fu, fv⟩ := fr
    dsimp only [rayV, hitV, boxV] at *
    have hA := alloc2_0 w (.cells #[.slice a0 m.ps.length c0, .slice a1 m.ts.length c1, .slice a2 m.bs.length c2] 44) (.cells #[.int .i64 oX, .int .i64 oY, .int .i64 oZ, .int .i64 dX, .int .i64 dY, .int .i64 dZ] 25)
    have hB_ := alloc2_1 w (.cells #[.slice a0 m.ps.length c0, .slice a1 m.ts.length c1, .slice a2 m.bs.length c2] 44) (.cells #[.int .i64 oX, .int .i64 oY, .int .i64 oZ, .int .i64 dX, .int .i64 dY, .int .i64 dZ] 25)
    have hB0 := alloc2_below w (.cells #[.slice a0 m.ps.length c0, .slice a1 m.ts.length c1, .slice a2 m.bs.length c2] 44) (.cells #[.int .i64 oX, .int .i64 oY, .int .i64 oZ, .int .i64 dX, .int .i64 dY, .int .i64 dZ] 25)
    obtain ⟨W, hW⟩ : ∃ ww, ww = (w.alloc (.cells #[.slice a0 m.ps.length c0, .slice a1 m.ts.length c1, .slice a2 m.bs.length c2] 44)).alloc (.cells #[.int .i64 oX, .int .i64 oY, .int .i64 oZ, .int .i64 dX, .int .i64 dY, .int .i64 dZ] 25) := ⟨_, rfl⟩
    rw [← hW] at hA hB_ hB0
    have HR0 := Lib.hid hA
    have HY0 := Lib.hid hB_
    have HB0 := Lib.hid hB0
    have HWW := Lib.hid hW
    clear hA hB_ hB0 hW
    go_enter Try.func7, Try.ntmps7
    go_upto_region 1 with (fail)
    rw [← HWW.out]
    clear HWW
    have cHR0 := cell_row HR0.out 0 _ rfl
    have cHR1 := cell_row HR0.out 1 _ rfl
    have cHR2 := cell_row HR0.out 2 _ rfl
    go_wp2_with fail
    refine (CSM.out _ HB0.out).mono ?_
    rintro e y1 ⟨rfl, hb⟩
    have HR1 := Lib.hid (vec_step HR0.out hb)
    have HY1 := Lib.hid (vec_step HY0.out hb)
    have HB1 := Lib.hid (HB0.out.trans (hb.mono HB0.out.size))
    clear HR0 HY0 HB0 hb cHR0 cHR1 cHR2 CSM
    have cHR0 := cell_row HR1.out 0 _ rfl
    have cHR1 := cell_row HR1.out 1 _ rfl
    have cHR2 := cell_row HR1.out 2 _ rfl
    have cHY0 := cell_row HY1.out 0 _ rfl
    have cHY1 := cell_row HY1.out 1 _ rfl
    have cHY2 := cell_row HY1.out 2 _ rfl
    have cHY3 := cell_row HY1.out 3 _ rfl
    have cHY4 := cell_row HY1.out 4 _ rfl
    have cHY5 := cell_row HY1.out 5 _ rfl
    go_wp2_with fail
    refine (CC1.out _ HB1.out).mono ?_
    rintro e y2 ⟨rfl, hb⟩
    have HR2 := Lib.hid (vec_step HR1.out hb)
    have HY2 := Lib.hid (vec_step HY1.out hb)
    have HB2 := Lib.hid (HB1.out.trans (hb.mono HB1.out.size))
    clear HR1 HY1 HB1 hb cHR0 cHR1 cHR2 cHY0 cHY1 cHY2 cHY3 cHY4 cHY5 CC1
    go_upto_region 4 with (fail)
    have hx := ext_alloc y2 (.cells #[.int .i64 bt, .int .i64 bi, .int .i64 bu, .int .i64 bv] 33)
    have hn := heap_alloc_new y2 (.cells #[.int .i64 bt, .int .i64 bi, .int .i64 bu, .int .i64 bv] 33)
    obtain ⟨y3, hW⟩ : ∃ ww, ww = y2.alloc (.cells #[.int .i64 bt, .int .i64 bi, .int .i64 bu, .int .i64 bv] 33) := ⟨_, rfl⟩
    rw [← hW] at hx hn ⊢
    clear hW
    have HR3 := Lib.hid (vec_step HR2.out hx)
    have HY3 := Lib.hid (vec_step HY2.out hx)
    have HB3 := Lib.hid (HB2.out.trans (hx.mono HB2.out.size))
    clear HR2 HY2 HB2 hx  
    have HT3 := Lib.hid (hn)
    clear hn
    generalize y2.heap.size = gHT at HT3 ⊢
    go_wp2_with fail
    go_loopg [10] N (fun r n9 wr => ∃ k : Nat, k + r = N ∧ n9 = .int .i64 (k : Int) ∧ Hid (Below y3.heap.size y3 wr))
    case atStart => exact ⟨0, by omega, rfl, Lib.hid (Below.refl _ _)⟩
    case round =>
      obtain ⟨k, hkr, rfl, hin⟩ := hrel
      have hb := hin.out
      have HW0 := hin
      clear hin
      have HR4 := Lib.hid (vec_step HR3.out hb)
      have HY4 := Lib.hid (vec_step HY3.out hb)
      have HB4 := Lib.hid (HB3.out.trans (hb.mono HB3.out.size))
      have HT4 := Lib.hid (vec_step HT3.out hb)
      clear HR3 HY3 HB3 HT3 hb  
      have HL4 := HW0
      clear HW0
      by_cases hk : k < N
      · have d2 : decide ((k : Int) < (N : Int)) = true := decide_eq_true (by omega)
        have d3 : decide (k < N) = true := decide_eq_true hk
        have HAR := Lib.hid (show k < N ∧ k + 1 + (gk - 1) = N ∧ gk - 1 < gk by omega)
        have wi : IntKind.i64.wrap ((k : Int) + 1) = (k : Int) + 1 := by rw [wrap_in (by omega) (by omega)]
        have ES := Lib.hid (fun w2 hb => DS.out w2 hb k HAR.out.1)
        have EB := Lib.hid (fun w2 hb => DBX.out w2 hb k HAR.out.1)
        have EH := Lib.hid (fun w2 => DHB.out w2 k)
        have EN := Lib.hid (NT2.out k hk)
        have ET := Lib.hid (ST2.out k hk)
        have ESN := Lib.hid (SN2.out k)
        generalize shp k = sk at ES EN ET ESN
        generalize bxs k = bk at EB EH
        generalize brs k = rk at EH ESN
        obtain ⟨⟨l1, l2, l3⟩, ⟨l4, l5, l6⟩⟩ := bk
        dsimp only at EB EH
        obtain ⟨near, hnear⟩ : ∃ zz, zz = rk.getD 0 := ⟨_, rfl⟩
        obtain ⟨nk, hnk⟩ : ∃ zz, zz = rk.isSome := ⟨_, rfl⟩
        rw [← hnear, ← hnk] at EH
        clear hk hkr
        have cHR0 := cell_row HR4.out 0 _ rfl
        have cHR1 := cell_row HR4.out 1 _ rfl
        have cHR2 := cell_row HR4.out 2 _ rfl
        go_wp2_with fail
        refine (CCN.out _ HB4.out).mono ?_
        rintro e y4 ⟨rfl, hb⟩
        have HL5 := Lib.hid (HL4.out.trans (hb.mono HL4.out.size))
        have HR5 := Lib.hid (vec_step HR4.out hb)
        have HY5 := Lib.hid (vec_step HY4.out hb)
        have HB5 := Lib.hid (HB4.out.trans (hb.mono HB4.out.size))
        have HT5 := Lib.hid (vec_step HT4.out hb)
        clear HR4 HY4 HB4 HT4 hb cHR0 cHR1 cHR2 HL4 
        cases sk
        · have e1 : ((-1 : Int) == (k : Int)) = false := beq_eq_false_iff_ne.mpr (by omega)
          have e2 : ((k : Int) == bi) = false := beq_eq_false_iff_ne.mpr (EN.out rfl)
          clear EN ET ESN hnear hnk
          dsimp only [htN, Option.getD_some, Option.getD_none, Option.isSome_some, Option.isSome_none] at ES
          have cHR0 := cell_row HR5.out 0 _ rfl
          have cHR1 := cell_row HR5.out 1 _ rfl
          have cHR2 := cell_row HR5.out 2 _ rfl
          have cHY0 := cell_row HY5.out 0 _ rfl
          have cHY1 := cell_row HY5.out 1 _ rfl
          have cHY2 := cell_row HY5.out 2 _ rfl
          have cHY3 := cell_row HY5.out 3 _ rfl
          have cHY4 := cell_row HY5.out 4 _ rfl
          have cHY5 := cell_row HY5.out 5 _ rfl
          go_wp2_with fail
          refine (ES.out _ HB5.out).mono ?_
          rintro e y5 ⟨rfl, hb⟩
          have HL6 := Lib.hid (HL5.out.trans (hb.mono HL5.out.size))
          have HR6 := Lib.hid (vec_step HR5.out hb)
          have HY6 := Lib.hid (vec_step HY5.out hb)
          have HB6 := Lib.hid (HB5.out.trans (hb.mono HB5.out.size))
          have HT6 := Lib.hid (vec_step HT5.out hb)
          clear HR5 HY5 HB5 HT5 hb cHR0 cHR1 cHR2 cHY0 cHY1 cHY2 cHY3 cHY4 cHY5 HL5 ES
          go_upto_region 8 with (fail)
          have hx := ext_alloc y5 (.cells #[.int .i64 0, .int .i64 (-1), .int .i64 0, .int .i64 0] 33)
          have hn := heap_alloc_new y5 (.cells #[.int .i64 0, .int .i64 (-1), .int .i64 0, .int .i64 0] 33)
          obtain ⟨y6, hW⟩ : ∃ ww, ww = y5.alloc (.cells #[.int .i64 0, .int .i64 (-1), .int .i64 0, .int .i64 0] 33) := ⟨_, rfl⟩
          rw [← hW] at hx hn ⊢
          clear hW
          have HL7 := Lib.hid (HL6.out.trans (hx.mono HL6.out.size))
          have HR7 := Lib.hid (vec_step HR6.out hx)
          have HY7 := Lib.hid (vec_step HY6.out hx)
          have HB7 := Lib.hid (HB6.out.trans (hx.mono HB6.out.size))
          have HT7 := Lib.hid (vec_step HT6.out hx)
          clear HR6 HY6 HB6 HT6 hx  HL6 
          have HH7 := Lib.hid (hn)
          clear hn
          generalize y5.heap.size = gHH at HH7 ⊢
          have Q1 := Lib.hid (qb (P := Try.prog) (W := y6) (fun w2 hb => EB.out w2 (HB7.out.trans (hb.mono HB7.out.size))))
          have Q2 := Lib.hid (qb (P := Try.prog) (W := y6) (fun w2 hb => EH.out w2))
          have fHR0 := fun d os => cell_regrown (cell_row HR7.out 0 _ rfl) d os
          have fHR1 := fun d os => cell_regrown (cell_row HR7.out 1 _ rfl) d os
          have fHR2 := fun d os => cell_regrown (cell_row HR7.out 2 _ rfl) d os
          have fHY0 := fun d os => cell_regrown (cell_row HY7.out 0 _ rfl) d os
          have fHY1 := fun d os => cell_regrown (cell_row HY7.out 1 _ rfl) d os
          have fHY2 := fun d os => cell_regrown (cell_row HY7.out 2 _ rfl) d os
          have fHY3 := fun d os => cell_regrown (cell_row HY7.out 3 _ rfl) d os
          have fHY4 := fun d os => cell_regrown (cell_row HY7.out 4 _ rfl) d os
          have fHY5 := fun d os => cell_regrown (cell_row HY7.out 5 _ rfl) d os
          refine wp_region_quiet_below (by kernel_rfl) (by kernel_rfl) ?_
          repeat (go_big_quiet_step (first | (with_reducible exact Q1.out _ _) | (with_reducible exact Q2.out _ _)))
          refine wpQuiet_nil ?_
          first | (rintro _ ⟨⟨dq, osq⟩, rfl⟩) | (rintro ⟨dq, osq⟩)
          have hb := below_regrown y6 dq osq
          obtain ⟨y7, hW⟩ : ∃ ww, ww = grow (redrawn y6 dq) osq := ⟨_, rfl⟩
          rw [← hW] at hb ⊢
          clear hW
          have HL8 := Lib.hid (HL7.out.trans (hb.mono HL7.out.size))
          have HR8 := Lib.hid (vec_step HR7.out hb)
          have HY8 := Lib.hid (vec_step HY7.out hb)
          have HB8 := Lib.hid (HB7.out.trans (hb.mono HB7.out.size))
          have HT8 := Lib.hid (vec_step HT7.out hb)
          have HH8 := Lib.hid (vec_step HH7.out hb)
          clear HR7 HY7 HB7 HT7 HH7 hb  HL7 fHR0 fHR1 fHR2 fHY0 fHY1 fHY2 fHY3 fHY4 fHY5
          clear Q1 Q2 EB EH
          have cHH0 := cell_row HH8.out 0 _ rfl
          have cHH1 := cell_row HH8.out 1 _ rfl
          have cHH2 := cell_row HH8.out 2 _ rfl
          have cHH3 := cell_row HH8.out 3 _ rfl
          have cHT0 := cell_row HT8.out 0 _ rfl
          have cHT1 := cell_row HT8.out 1 _ rfl
          have cHT2 := cell_row HT8.out 2 _ rfl
          have cHT3 := cell_row HT8.out 3 _ rfl
          go_wp2_with fail
          go_roundg (gk - 1)
          case measure => exact HAR.out.2.2
          case rel => exact ⟨k + 1, HAR.out.2.1, by go_num, Lib.hid HL8.out⟩
        · rename_i hh
          obtain ⟨hi1, hi2, hi3, hi4, hi5⟩ := ET.out hh rfl
          obtain ⟨nr, hnr, hle⟩ := ESN.out hh rfl
          rw [hnr] at hnear hnk
          simp only [Option.getD_some, Option.isSome_some] at hnear hnk
          subst hnear hnk
          obtain ⟨ht, hi_, hu, hv⟩ := hh
          dsimp only at hi1 hi2 hi3 hi4 hi5 hle
          subst hi1
          clear EN ET ESN hnr
          have e1 : decide (ht < near) = false := decide_eq_false (by omega)
          have e2 : decide (ht < least) = false := decide_eq_false (by omega)
          have e3 : decide (bi < 0) = false := decide_eq_false (by omega)
          have e4 : decide (ht < bt) = false := decide_eq_false (by omega)
          have HI3 := Lib.hid hi3
          have HI4 := Lib.hid hi4
          clear hi2 hi3 hi4 hi5 hle
          by_cases c1 : (k : Int) = bi
          · have hq := HI4.out c1
            injection hq with q1 q2 q3 q4
            subst q1 q2 q3 q4
            have e5 : decide ((k : Int) < (k : Int)) = false := decide_eq_false (by omega)
            have SHH := same_hit ht (k : Int) hu hv
            clear c1 HI3 HI4
            dsimp only [htN, Option.getD_some, Option.getD_none, Option.isSome_some, Option.isSome_none] at ES
            have cHR0 := cell_row HR5.out 0 _ rfl
            have cHR1 := cell_row HR5.out 1 _ rfl
            have cHR2 := cell_row HR5.out 2 _ rfl
            have cHY0 := cell_row HY5.out 0 _ rfl
            have cHY1 := cell_row HY5.out 1 _ rfl
            have cHY2 := cell_row HY5.out 2 _ rfl
            have cHY3 := cell_row HY5.out 3 _ rfl
            have cHY4 := cell_row HY5.out 4 _ rfl
            have cHY5 := cell_row HY5.out 5 _ rfl
            go_wp2_with fail
            refine (ES.out _ HB5.out).mono ?_
            rintro e y8 ⟨rfl, hb⟩
            have HL6 := Lib.hid (HL5.out.trans (hb.mono HL5.out.size))
            have HR6 := Lib.hid (vec_step HR5.out hb)
            have HY6 := Lib.hid (vec_step HY5.out hb)
            have HB6 := Lib.hid (HB5.out.trans (hb.mono HB5.out.size))
            have HT6 := Lib.hid (vec_step HT5.out hb)
            clear HR5 HY5 HB5 HT5 hb cHR0 cHR1 cHR2 cHY0 cHY1 cHY2 cHY3 cHY4 cHY5 HL5 ES
            go_upto_region 8 with (fail)
            have hx := ext_alloc y8 (.cells #[.int .i64 ht, .int .i64 (k : Int), .int .i64 hu, .int .i64 hv] 33)
            have hn := heap_alloc_new y8 (.cells #[.int .i64 ht, .int .i64 (k : Int), .int .i64 hu, .int .i64 hv] 33)
            obtain ⟨y9, hW⟩ : ∃ ww, ww = y8.alloc (.cells #[.int .i64 ht, .int .i64 (k : Int), .int .i64 hu, .int .i64 hv] 33) := ⟨_, rfl⟩
            rw [← hW] at hx hn ⊢
            clear hW
            have HL7 := Lib.hid (HL6.out.trans (hx.mono HL6.out.size))
            have HR7 := Lib.hid (vec_step HR6.out hx)
            have HY7 := Lib.hid (vec_step HY6.out hx)
            have HB7 := Lib.hid (HB6.out.trans (hx.mono HB6.out.size))
            have HT7 := Lib.hid (vec_step HT6.out hx)
            clear HR6 HY6 HB6 HT6 hx  HL6 
            have HH7 := Lib.hid (hn)
            clear hn
            generalize y8.heap.size = gHH at HH7 ⊢
            have Q1 := Lib.hid (qb (P := Try.prog) (W := y9) (fun w2 hb => EB.out w2 (HB7.out.trans (hb.mono HB7.out.size))))
            have Q2 := Lib.hid (qb (P := Try.prog) (W := y9) (fun w2 hb => EH.out w2))
            have fHR0 := fun d os => cell_regrown (cell_row HR7.out 0 _ rfl) d os
            have fHR1 := fun d os => cell_regrown (cell_row HR7.out 1 _ rfl) d os
            have fHR2 := fun d os => cell_regrown (cell_row HR7.out 2 _ rfl) d os
            have fHY0 := fun d os => cell_regrown (cell_row HY7.out 0 _ rfl) d os
            have fHY1 := fun d os => cell_regrown (cell_row HY7.out 1 _ rfl) d os
            have fHY2 := fun d os => cell_regrown (cell_row HY7.out 2 _ rfl) d os
            have fHY3 := fun d os => cell_regrown (cell_row HY7.out 3 _ rfl) d os
            have fHY4 := fun d os => cell_regrown (cell_row HY7.out 4 _ rfl) d os
            have fHY5 := fun d os => cell_regrown (cell_row HY7.out 5 _ rfl) d os
            refine wp_region_quiet_below (by kernel_rfl) (by kernel_rfl) ?_
            repeat (go_big_quiet_step (first | (with_reducible exact Q1.out _ _) | (with_reducible exact Q2.out _ _)))
            refine wpQuiet_nil ?_
            first | (rintro _ ⟨⟨dq, osq⟩, rfl⟩) | (rintro ⟨dq, osq⟩)
            have hb := below_regrown y9 dq osq
            obtain ⟨y10, hW⟩ : ∃ ww, ww = grow (redrawn y9 dq) osq := ⟨_, rfl⟩
            rw [← hW] at hb ⊢
            clear hW
            have HL8 := Lib.hid (HL7.out.trans (hb.mono HL7.out.size))
            have HR8 := Lib.hid (vec_step HR7.out hb)
            have HY8 := Lib.hid (vec_step HY7.out hb)
            have HB8 := Lib.hid (HB7.out.trans (hb.mono HB7.out.size))
            have HT8 := Lib.hid (vec_step HT7.out hb)
            have HH8 := Lib.hid (vec_step HH7.out hb)
            clear HR7 HY7 HB7 HT7 HH7 hb  HL7 fHR0 fHR1 fHR2 fHY0 fHY1 fHY2 fHY3 fHY4 fHY5
            clear Q1 Q2 EB EH
            have cHH0 := cell_row HH8.out 0 _ rfl
            have cHH1 := cell_row HH8.out 1 _ rfl
            have cHH2 := cell_row HH8.out 2 _ rfl
            have cHH3 := cell_row HH8.out 3 _ rfl
            have cHT0 := cell_row HT8.out 0 _ rfl
            have cHT1 := cell_row HT8.out 1 _ rfl
            have cHT2 := cell_row HT8.out 2 _ rfl
            have cHT3 := cell_row HT8.out 3 _ rfl
            go_wp2_with fail
            go_roundg (gk - 1)
            case measure => exact HAR.out.2.2
            case rel => exact ⟨k + 1, HAR.out.2.1, by go_num, Lib.hid HL8.out⟩
          · have e5 : ((k : Int) == bi) = false := beq_eq_false_iff_ne.mpr c1
            by_cases c2 : ht = bt
            · have e6 : (ht == bt) = true := beq_iff_eq.mpr c2
              have e7 : decide ((k : Int) < bi) = false := decide_eq_false (by have := HI3.out; omega)
              clear c1 c2 HI3 HI4
              dsimp only [htN, Option.getD_some, Option.getD_none, Option.isSome_some, Option.isSome_none] at ES
              have cHR0 := cell_row HR5.out 0 _ rfl
              have cHR1 := cell_row HR5.out 1 _ rfl
              have cHR2 := cell_row HR5.out 2 _ rfl
              have cHY0 := cell_row HY5.out 0 _ rfl
              have cHY1 := cell_row HY5.out 1 _ rfl
              have cHY2 := cell_row HY5.out 2 _ rfl
              have cHY3 := cell_row HY5.out 3 _ rfl
              have cHY4 := cell_row HY5.out 4 _ rfl
              have cHY5 := cell_row HY5.out 5 _ rfl
              go_wp2_with fail
              refine (ES.out _ HB5.out).mono ?_
              rintro e y11 ⟨rfl, hb⟩
              have HL6 := Lib.hid (HL5.out.trans (hb.mono HL5.out.size))
              have HR6 := Lib.hid (vec_step HR5.out hb)
              have HY6 := Lib.hid (vec_step HY5.out hb)
              have HB6 := Lib.hid (HB5.out.trans (hb.mono HB5.out.size))
              have HT6 := Lib.hid (vec_step HT5.out hb)
              clear HR5 HY5 HB5 HT5 hb cHR0 cHR1 cHR2 cHY0 cHY1 cHY2 cHY3 cHY4 cHY5 HL5 ES
              go_upto_region 8 with (fail)
              have hx := ext_alloc y11 (.cells #[.int .i64 ht, .int .i64 (k : Int), .int .i64 hu, .int .i64 hv] 33)
              have hn := heap_alloc_new y11 (.cells #[.int .i64 ht, .int .i64 (k : Int), .int .i64 hu, .int .i64 hv] 33)
              obtain ⟨y12, hW⟩ : ∃ ww, ww = y11.alloc (.cells #[.int .i64 ht, .int .i64 (k : Int), .int .i64 hu, .int .i64 hv] 33) := ⟨_, rfl⟩
              rw [← hW] at hx hn ⊢
              clear hW
              have HL7 := Lib.hid (HL6.out.trans (hx.mono HL6.out.size))
              have HR7 := Lib.hid (vec_step HR6.out hx)
              have HY7 := Lib.hid (vec_step HY6.out hx)
              have HB7 := Lib.hid (HB6.out.trans (hx.mono HB6.out.size))
              have HT7 := Lib.hid (vec_step HT6.out hx)
              clear HR6 HY6 HB6 HT6 hx  HL6 
              have HH7 := Lib.hid (hn)
              clear hn
              generalize y11.heap.size = gHH at HH7 ⊢
              have Q1 := Lib.hid (qb (P := Try.prog) (W := y12) (fun w2 hb => EB.out w2 (HB7.out.trans (hb.mono HB7.out.size))))
              have Q2 := Lib.hid (qb (P := Try.prog) (W := y12) (fun w2 hb => EH.out w2))
              have fHR0 := fun d os => cell_regrown (cell_row HR7.out 0 _ rfl) d os
              have fHR1 := fun d os => cell_regrown (cell_row HR7.out 1 _ rfl) d os
              have fHR2 := fun d os => cell_regrown (cell_row HR7.out 2 _ rfl) d os
              have fHY0 := fun d os => cell_regrown (cell_row HY7.out 0 _ rfl) d os
              have fHY1 := fun d os => cell_regrown (cell_row HY7.out 1 _ rfl) d os
              have fHY2 := fun d os => cell_regrown (cell_row HY7.out 2 _ rfl) d os
              have fHY3 := fun d os => cell_regrown (cell_row HY7.out 3 _ rfl) d os
              have fHY4 := fun d os => cell_regrown (cell_row HY7.out 4 _ rfl) d os
              have fHY5 := fun d os => cell_regrown (cell_row HY7.out 5 _ rfl) d os
              refine wp_region_quiet_below (by kernel_rfl) (by kernel_rfl) ?_
              repeat (go_big_quiet_step (first | (with_reducible exact Q1.out _ _) | (with_reducible exact Q2.out _ _)))
              refine wpQuiet_nil ?_
              first | (rintro _ ⟨⟨dq, osq⟩, rfl⟩) | (rintro ⟨dq, osq⟩)
              have hb := below_regrown y12 dq osq
              obtain ⟨y13, hW⟩ : ∃ ww, ww = grow (redrawn y12 dq) osq := ⟨_, rfl⟩
              rw [← hW] at hb ⊢
              clear hW
              have HL8 := Lib.hid (HL7.out.trans (hb.mono HL7.out.size))
              have HR8 := Lib.hid (vec_step HR7.out hb)
              have HY8 := Lib.hid (vec_step HY7.out hb)
              have HB8 := Lib.hid (HB7.out.trans (hb.mono HB7.out.size))
              have HT8 := Lib.hid (vec_step HT7.out hb)
              have HH8 := Lib.hid (vec_step HH7.out hb)
              clear HR7 HY7 HB7 HT7 HH7 hb  HL7 fHR0 fHR1 fHR2 fHY0 fHY1 fHY2 fHY3 fHY4 fHY5
              clear Q1 Q2 EB EH
              have cHH0 := cell_row HH8.out 0 _ rfl
              have cHH1 := cell_row HH8.out 1 _ rfl
              have cHH2 := cell_row HH8.out 2 _ rfl
              have cHH3 := cell_row HH8.out 3 _ rfl
              have cHT0 := cell_row HT8.out 0 _ rfl
              have cHT1 := cell_row HT8.out 1 _ rfl
              have cHT2 := cell_row HT8.out 2 _ rfl
              have cHT3 := cell_row HT8.out 3 _ rfl
              go_wp2_with fail
              go_roundg (gk - 1)
              case measure => exact HAR.out.2.2
              case rel => exact ⟨k + 1, HAR.out.2.1, by go_num, Lib.hid HL8.out⟩
            · have e6 : (ht == bt) = false := beq_eq_false_iff_ne.mpr c2
              clear c1 c2 HI3 HI4
              dsimp only [htN, Option.getD_some, Option.getD_none, Option.isSome_some, Option.isSome_none] at ES
              have cHR0 := cell_row HR5.out 0 _ rfl
              have cHR1 := cell_row HR5.out 1 _ rfl
              have cHR2 := cell_row HR5.out 2 _ rfl
              have cHY0 := cell_row HY5.out 0 _ rfl
              have cHY1 := cell_row HY5.out 1 _ rfl
              have cHY2 := cell_row HY5.out 2 _ rfl
              have cHY3 := cell_row HY5.out 3 _ rfl
              have cHY4 := cell_row HY5.out 4 _ rfl
              have cHY5 := cell_row HY5.out 5 _ rfl
              go_wp2_with fail
              refine (ES.out _ HB5.out).mono ?_
              rintro e y14 ⟨rfl, hb⟩
              have HL6 := Lib.hid (HL5.out.trans (hb.mono HL5.out.size))
              have HR6 := Lib.hid (vec_step HR5.out hb)
              have HY6 := Lib.hid (vec_step HY5.out hb)
              have HB6 := Lib.hid (HB5.out.trans (hb.mono HB5.out.size))
              have HT6 := Lib.hid (vec_step HT5.out hb)
              clear HR5 HY5 HB5 HT5 hb cHR0 cHR1 cHR2 cHY0 cHY1 cHY2 cHY3 cHY4 cHY5 HL5 ES
              go_upto_region 8 with (fail)
              have hx := ext_alloc y14 (.cells #[.int .i64 ht, .int .i64 (k : Int), .int .i64 hu, .int .i64 hv] 33)
              have hn := heap_alloc_new y14 (.cells #[.int .i64 ht, .int .i64 (k : Int), .int .i64 hu, .int .i64 hv] 33)
              obtain ⟨y15, hW⟩ : ∃ ww, ww = y14.alloc (.cells #[.int .i64 ht, .int .i64 (k : Int), .int .i64 hu, .int .i64 hv] 33) := ⟨_, rfl⟩
              rw [← hW] at hx hn ⊢
              clear hW
              have HL7 := Lib.hid (HL6.out.trans (hx.mono HL6.out.size))
              have HR7 := Lib.hid (vec_step HR6.out hx)
              have HY7 := Lib.hid (vec_step HY6.out hx)
              have HB7 := Lib.hid (HB6.out.trans (hx.mono HB6.out.size))
              have HT7 := Lib.hid (vec_step HT6.out hx)
              clear HR6 HY6 HB6 HT6 hx  HL6 
              have HH7 := Lib.hid (hn)
              clear hn
              generalize y14.heap.size = gHH at HH7 ⊢
              have Q1 := Lib.hid (qb (P := Try.prog) (W := y15) (fun w2 hb => EB.out w2 (HB7.out.trans (hb.mono HB7.out.size))))
              have Q2 := Lib.hid (qb (P := Try.prog) (W := y15) (fun w2 hb => EH.out w2))
              have fHR0 := fun d os => cell_regrown (cell_row HR7.out 0 _ rfl) d os
              have fHR1 := fun d os => cell_regrown (cell_row HR7.out 1 _ rfl) d os
              have fHR2 := fun d os => cell_regrown (cell_row HR7.out 2 _ rfl) d os
              have fHY0 := fun d os => cell_regrown (cell_row HY7.out 0 _ rfl) d os
              have fHY1 := fun d os => cell_regrown (cell_row HY7.out 1 _ rfl) d os
              have fHY2 := fun d os => cell_regrown (cell_row HY7.out 2 _ rfl) d os
              have fHY3 := fun d os => cell_regrown (cell_row HY7.out 3 _ rfl) d os
              have fHY4 := fun d os => cell_regrown (cell_row HY7.out 4 _ rfl) d os
              have fHY5 := fun d os => cell_regrown (cell_row HY7.out 5 _ rfl) d os
              refine wp_region_quiet_below (by kernel_rfl) (by kernel_rfl) ?_
              repeat (go_big_quiet_step (first | (with_reducible exact Q1.out _ _) | (with_reducible exact Q2.out _ _)))
              refine wpQuiet_nil ?_
              first | (rintro _ ⟨⟨dq, osq⟩, rfl⟩) | (rintro ⟨dq, osq⟩)
              have hb := below_regrown y15 dq osq
              obtain ⟨y16, hW⟩ : ∃ ww, ww = grow (redrawn y15 dq) osq := ⟨_, rfl⟩
              rw [← hW] at hb ⊢
              clear hW
              have HL8 := Lib.hid (HL7.out.trans (hb.mono HL7.out.size))
              have HR8 := Lib.hid (vec_step HR7.out hb)
              have HY8 := Lib.hid (vec_step HY7.out hb)
              have HB8 := Lib.hid (HB7.out.trans (hb.mono HB7.out.size))
              have HT8 := Lib.hid (vec_step HT7.out hb)
              have HH8 := Lib.hid (vec_step HH7.out hb)
              clear HR7 HY7 HB7 HT7 HH7 hb  HL7 fHR0 fHR1 fHR2 fHY0 fHY1 fHY2 fHY3 fHY4 fHY5
              clear Q1 Q2 EB EH
              have cHH0 := cell_row HH8.out 0 _ rfl
              have cHH1 := cell_row HH8.out 1 _ rfl
              have cHH2 := cell_row HH8.out 2 _ rfl
              have cHH3 := cell_row HH8.out 3 _ rfl
              have cHT0 := cell_row HT8.out 0 _ rfl
              have cHT1 := cell_row HT8.out 1 _ rfl
              have cHT2 := cell_row HT8.out 2 _ rfl
              have cHT3 := cell_row HT8.out 3 _ rfl
              go_wp2_with fail
              go_roundg (gk - 1)
              case measure => exact HAR.out.2.2
              case rel => exact ⟨k + 1, HAR.out.2.1, by go_num, Lib.hid HL8.out⟩
      · clear HL4
        have d2 : decide ((k : Int) < (N : Int)) = false := decide_eq_false (by omega)
        have d3 : decide (k < N) = false := decide_eq_false hk
        clear hk hkr DS DBX DHB NT2 ST2 SN2
        have f1 : decide (bi < (N : Int)) = true := decide_eq_true BT2.out.2
        have f2 : decide (-1 ≤ bi) = true := decide_eq_true BT2.out.1
        have cHR0 := cell_row HR4.out 0 _ rfl
        have cHR1 := cell_row HR4.out 1 _ rfl
        have cHR2 := cell_row HR4.out 2 _ rfl
        go_wp2_with fail
        refine (CCN.out _ HB4.out).mono ?_
        rintro e y17 ⟨rfl, hb⟩
        have HR5 := Lib.hid (vec_step HR4.out hb)
        have HY5 := Lib.hid (vec_step HY4.out hb)
        have HB5 := Lib.hid (HB4.out.trans (hb.mono HB4.out.size))
        have HT5 := Lib.hid (vec_step HT4.out hb)
        clear HR4 HY4 HB4 HT4 hb cHR0 cHR1 cHR2 
        have cHR0 := cell_row HR5.out 0 _ rfl
        have cHR1 := cell_row HR5.out 1 _ rfl
        have cHR2 := cell_row HR5.out 2 _ rfl
        have cHY0 := cell_row HY5.out 0 _ rfl
        have cHY1 := cell_row HY5.out 1 _ rfl
        have cHY2 := cell_row HY5.out 2 _ rfl
        have cHY3 := cell_row HY5.out 3 _ rfl
        have cHY4 := cell_row HY5.out 4 _ rfl
        have cHY5 := cell_row HY5.out 5 _ rfl
        go_wp2_with fail
        refine (CC2.out _ HB5.out).mono ?_
        rintro e y18 ⟨rfl, hb⟩
        have HR6 := Lib.hid (vec_step HR5.out hb)
        have HY6 := Lib.hid (vec_step HY5.out hb)
        have HB6 := Lib.hid (HB5.out.trans (hb.mono HB5.out.size))
        have HT6 := Lib.hid (vec_step HT5.out hb)
        clear HR5 HY5 HB5 HT5 hb cHR0 cHR1 cHR2 cHY0 cHY1 cHY2 cHY3 cHY4 cHY5 CC2
        go_upto_region 14 with (fail)
        have hx := ext_alloc y18 (.cells #[.int .i64 ft, .int .i64 fi, .int .i64 fu, .int .i64 fv] 33)
        have hn := heap_alloc_new y18 (.cells #[.int .i64 ft, .int .i64 fi, .int .i64 fu, .int .i64 fv] 33)
        obtain ⟨y19, hW⟩ : ∃ ww, ww = y18.alloc (.cells #[.int .i64 ft, .int .i64 fi, .int .i64 fu, .int .i64 fv] 33) := ⟨_, rfl⟩
        rw [← hW] at hx hn ⊢
        clear hW
        have HR7 := Lib.hid (vec_step HR6.out hx)
        have HY7 := Lib.hid (vec_step HY6.out hx)
        have HB7 := Lib.hid (HB6.out.trans (hx.mono HB6.out.size))
        have HT7 := Lib.hid (vec_step HT6.out hx)
        clear HR6 HY6 HB6 HT6 hx  
        have HF7 := Lib.hid (hn)
        clear hn
        generalize y18.heap.size = gHF at HF7 ⊢
        by_cases c1 : fi < 0
        · have f3 : decide (fi < 0) = true := decide_eq_true c1
          have Q1 := Lib.hid (qb (P := Try.prog) (W := y19) (fun w2 hb => CCN.out w2 (HB7.out.trans (hb.mono HB7.out.size))))
          have Q2 := Lib.hid (qb (P := Try.prog) (W := y19) (v := .bool true) (fun w2 hb => awake_any w2))
          have fHR0 := fun d os => cell_regrown (cell_row HR7.out 0 _ rfl) d os
          have fHR1 := fun d os => cell_regrown (cell_row HR7.out 1 _ rfl) d os
          have fHR2 := fun d os => cell_regrown (cell_row HR7.out 2 _ rfl) d os
          have fHT0 := fun d os => cell_regrown (cell_row HT7.out 0 _ rfl) d os
          have fHT1 := fun d os => cell_regrown (cell_row HT7.out 1 _ rfl) d os
          have fHT2 := fun d os => cell_regrown (cell_row HT7.out 2 _ rfl) d os
          have fHT3 := fun d os => cell_regrown (cell_row HT7.out 3 _ rfl) d os
          have fHF0 := fun d os => cell_regrown (cell_row HF7.out 0 _ rfl) d os
          have fHF1 := fun d os => cell_regrown (cell_row HF7.out 1 _ rfl) d os
          have fHF2 := fun d os => cell_regrown (cell_row HF7.out 2 _ rfl) d os
          have fHF3 := fun d os => cell_regrown (cell_row HF7.out 3 _ rfl) d os
          refine wp_region_quiet_below (by kernel_rfl) (by kernel_rfl) ?_
          repeat (go_big_quiet_step (first | (with_reducible exact Q1.out _ _) | (with_reducible exact Q2.out _ _)))
          refine wpQuiet_nil ?_
          first | (rintro _ ⟨⟨dq, osq⟩, rfl⟩) | (rintro ⟨dq, osq⟩)
          have hb := below_regrown y19 dq osq
          obtain ⟨y20, hW⟩ : ∃ ww, ww = grow (redrawn y19 dq) osq := ⟨_, rfl⟩
          rw [← hW] at hb ⊢
          clear hW
          have HR8 := Lib.hid (vec_step HR7.out hb)
          have HY8 := Lib.hid (vec_step HY7.out hb)
          have HB8 := Lib.hid (HB7.out.trans (hb.mono HB7.out.size))
          have HT8 := Lib.hid (vec_step HT7.out hb)
          have HF8 := Lib.hid (vec_step HF7.out hb)
          clear HR7 HY7 HB7 HT7 HF7 hb  fHR0 fHR1 fHR2 fHT0 fHT1 fHT2 fHT3 fHF0 fHF1 fHF2 fHF3
          go_wp2_with fail
          go_ret
          exact ⟨rfl, HB8.out⟩
        · have f3 : decide (fi < 0) = false := decide_eq_false c1
          have f4 : decide (0 ≤ bi) = true := decide_eq_true (by have := FT.out; omega)
          have f5 : decide (bt ≤ ft) = true := decide_eq_true (by have := FT.out; omega)
          have Q1 := Lib.hid (qb (P := Try.prog) (W := y19) (fun w2 hb => CCN.out w2 (HB7.out.trans (hb.mono HB7.out.size))))
          have Q2 := Lib.hid (qb (P := Try.prog) (W := y19) (v := .bool true) (fun w2 hb => awake_any w2))
          have fHR0 := fun d os => cell_regrown (cell_row HR7.out 0 _ rfl) d os
          have fHR1 := fun d os => cell_regrown (cell_row HR7.out 1 _ rfl) d os
          have fHR2 := fun d os => cell_regrown (cell_row HR7.out 2 _ rfl) d os
          have fHT0 := fun d os => cell_regrown (cell_row HT7.out 0 _ rfl) d os
          have fHT1 := fun d os => cell_regrown (cell_row HT7.out 1 _ rfl) d os
          have fHT2 := fun d os => cell_regrown (cell_row HT7.out 2 _ rfl) d os
          have fHT3 := fun d os => cell_regrown (cell_row HT7.out 3 _ rfl) d os
          have fHF0 := fun d os => cell_regrown (cell_row HF7.out 0 _ rfl) d os
          have fHF1 := fun d os => cell_regrown (cell_row HF7.out 1 _ rfl) d os
          have fHF2 := fun d os => cell_regrown (cell_row HF7.out 2 _ rfl) d os
          have fHF3 := fun d os => cell_regrown (cell_row HF7.out 3 _ rfl) d os
          refine wp_region_quiet_below (by kernel_rfl) (by kernel_rfl) ?_
          repeat (go_big_quiet_step (first | (with_reducible exact Q1.out _ _) | (with_reducible exact Q2.out _ _)))
          refine wpQuiet_nil ?_
          first | (rintro _ ⟨⟨dq, osq⟩, rfl⟩) | (rintro ⟨dq, osq⟩)
          have hb := below_regrown y19 dq osq
          obtain ⟨y21, hW⟩ : ∃ ww, ww = grow (redrawn y19 dq) osq := ⟨_, rfl⟩
          rw [← hW] at hb ⊢
          clear hW
          have HR8 := Lib.hid (vec_step HR7.out hb)
          have HY8 := Lib.hid (vec_step HY7.out hb)
          have HB8 := Lib.hid (HB7.out.trans (hb.mono HB7.out.size))
          have HT8 := Lib.hid (vec_step HT7.out hb)
          have HF8 := Lib.hid (vec_step HF7.out hb)
          clear HR7 HY7 HB7 HT7 HF7 hb  fHR0 fHR1 fHR2 fHT0 fHT1 fHT2 fHT3 fHF0 fHF1 fHF2 fHF3
          go_wp2_with fail
          go_ret
          exact ⟨rfl, HB8.out⟩
  · have hs2 : (decide ((m.ps.length : Int) ≤ 40) && decide ((m.ts.length : Int) ≤ 40) && decide ((m.bs.length : Int) ≤ 40)) = false := by simpa using hs
    rw [hs2] at CSM
    obtain ⟨a0, c0, a1, c1, a2, c2, rfl, -⟩ := hm.open_
    clear hm ok hr hs hs2
    obtain ⟨⟨oX, oY, oZ⟩, ⟨dX, dY, dZ⟩⟩ := r
    dsimp only [rayV] at *
    have hA := alloc2_0 w (.cells #[.slice a0 m.ps.length c0, .slice a1 m.ts.length c1, .slice a2 m.bs.length c2] 44) (.cells #[.int .i64 oX, .int .i64 oY, .int .i64 oZ, .int .i64 dX, .int .i64 dY, .int .i64 dZ] 25)
    have hB0 := alloc2_below w (.cells #[.slice a0 m.ps.length c0, .slice a1 m.ts.length c1, .slice a2 m.bs.length c2] 44) (.cells #[.int .i64 oX, .int .i64 oY, .int .i64 oZ, .int .i64 dX, .int .i64 dY, .int .i64 dZ] 25)
    obtain ⟨W, hW⟩ : ∃ ww, ww = (w.alloc (.cells #[.slice a0 m.ps.length c0, .slice a1 m.ts.length c1, .slice a2 m.bs.length c2] 44)).alloc (.cells #[.int .i64 oX, .int .i64 oY, .int .i64 oZ, .int .i64 dX, .int .i64 dY, .int .i64 dZ] 25) := ⟨_, rfl⟩
    rw [← hW] at hA hB0
    have HR0 := Lib.hid hA
    have HB0 := Lib.hid hB0
    have HWW := Lib.hid hW
    clear hA hB0 hW
    go_enter Try.func7, Try.ntmps7
    go_upto_region 1 with (fail)
    rw [← HWW.out]
    clear HWW
    have cHR0 := cell_row HR0.out 0 _ rfl
    have cHR1 := cell_row HR0.out 1 _ rfl
    have cHR2 := cell_row HR0.out 2 _ rfl
    go_wp2_with fail
    refine (CSM.out _ HB0.out).mono ?_
    rintro e y22 ⟨rfl, hb⟩
    have HR1 := Lib.hid (vec_step HR0.out hb)
    have HB1 := Lib.hid (HB0.out.trans (hb.mono HB0.out.size))
    clear HR0 HB0 hb cHR0 cHR1 cHR2 CSM
    go_wp2_with fail
    refine (awake_any _).mono ?_
    rintro e y23 ⟨rfl, hb⟩
    have HR2 := Lib.hid (vec_step HR1.out hb)
    have HB2 := Lib.hid (HB1.out.trans (hb.mono HB1.out.size))
    clear HR1 HB1 hb  
    go_wp2_with fail
    go_ret
    exact ⟨rfl, HB2.out⟩

end Go.Proofs.Ytdmmbhcaejojeaa.HitL
