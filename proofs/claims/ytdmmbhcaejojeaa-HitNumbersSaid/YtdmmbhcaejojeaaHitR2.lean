/- The walk of ref13 there. -/
import Derived.Test.YtdmmbhcaejojeaaHitS
import Derived.Test.YtdmmbhcaejojeaaHitR
set_option linter.unusedVariables false
set_option linter.unusedSimpArgs false
namespace Go.Proofs.Ytdmmbhcaejojeaa.HitR2
open Go.RowKit Go.Sort FixM Base Num FixW Qb Qt Qa Qf VecW VecV VecU LightQ LightC MeshM Rec MeshA MeshB MeshC MeshD MeshE MeshP MeshR HitM HitT HitB HitX HitN HitC HitS HitR
def thereF (m : Msh) (i : Int) : Bool :=
  if i < 0 ∨ (m.ts.length : Int) + (m.bs.length : Int) ≤ i then false
  else if i < (m.ts.length : Int) then hasF m.ps.length (m.ts.getD i.toNat v0) else true
set_option maxRecDepth 100000 in
set_option maxHeartbeats 16000000 in
theorem rthere_any (v : Value) (m : Msh) (w : World) (hm : IsMesh w v m) (hl : m.ts.length + m.bs.length ≤ 9223372036854775807) (i : Int) (hi : In i) : Calls Try.prog 54 #[v, .int .i64 i] w (VTo (.bool (thereF m i)) w) := by
  have CCN := Lib.hid (fun w2 (hb : Below w.heap.size w w2) => rcount_any v m w2 (hm.below hb) hl)
  obtain ⟨a0, c0, a1, c1, a2, c2, rfl, h0_, h1_, h2_, l0, l1, l2⟩ := hm.open_
  have HTS := Lib.hid h1_
  have L0 := Lib.hid l0
  obtain ⟨N, hN⟩ : ∃ zz : Int, zz = ((m.ts.length + m.bs.length : Nat) : Int) := ⟨_, rfl⟩
  rw [← hN] at CCN
  have HN : N = (m.ts.length : Int) + (m.bs.length : Int) := by rw [hN]; omega
  obtain ⟨res, hres⟩ : ∃ zz, zz = thereF m i := ⟨_, rfl⟩
  rw [← hres]
  unfold thereF at hres
  have hA := heap_alloc_new w (.cells #[.slice a0 m.ps.length c0, .slice a1 m.ts.length c1, .slice a2 m.bs.length c2] 44)
  have hB0 := ext_alloc w (.cells #[.slice a0 m.ps.length c0, .slice a1 m.ts.length c1, .slice a2 m.bs.length c2] 44)
  obtain ⟨W, hW⟩ : ∃ ww, ww = w.alloc (.cells #[.slice a0 m.ps.length c0, .slice a1 m.ts.length c1, .slice a2 m.bs.length c2] 44) := ⟨_, rfl⟩
  rw [← hW] at hA hB0
  have HR0 := Lib.hid hA
  have HB0 := Lib.hid hB0
  have HWW := Lib.hid hW
  clear hA hB0 hW hm h0_ h1_ h2_ l0 l1 l2 hN
  by_cases h0 : i < 0
  · have d0 : decide (i < 0) = true := decide_eq_true h0
    have hr0 : res = false := by rw [hres, if_pos (.inl h0)]
    subst hr0
    clear hres h0
    go_enter Try.func54, Try.ntmps54
    go_upto_region 1 with (fail)
    rw [← HWW.out]
    clear HWW
    go_wp2_with fail
    go_ret
    exact ⟨rfl, HB0.out⟩
  have d0 : decide (i < 0) = false := decide_eq_false h0
  by_cases h1 : N ≤ i
  · have d1 : decide (N ≤ i) = true := decide_eq_true h1
    have hr0 : res = false := by rw [hres, if_pos (.inr (by omega))]
    subst hr0
    clear hres h1 h0 HN
    go_enter Try.func54, Try.ntmps54
    go_upto_region 1 with (fail)
    rw [← HWW.out]
    clear HWW
    have cHR0 := cell_row HR0.out 0 _ rfl
    have cHR1 := cell_row HR0.out 1 _ rfl
    have cHR2 := cell_row HR0.out 2 _ rfl
    go_wp2_with fail
    refine (CCN.out _ HB0.out).mono ?_
    rintro e y1 ⟨rfl, hb⟩
    have HR1 := Lib.hid (vec_step HR0.out hb)
    have HB1 := Lib.hid (HB0.out.trans (hb.mono HB0.out.size))
    clear HR0 HB0 hb cHR0 cHR1 cHR2 
    go_wp2_with fail
    go_ret
    exact ⟨rfl, HB1.out⟩
  have d1 : decide (N ≤ i) = false := decide_eq_false h1
  rw [if_neg (by omega)] at hres
  by_cases h2 : i < (m.ts.length : Int)
  · have d2 : decide (i < (m.ts.length : Int)) = true := decide_eq_true h2
    rw [if_pos h2] at hres
    obtain ⟨j, rfl⟩ := Int.eq_ofNat_of_zero_le (show 0 ≤ i by omega)
    have hj : j < m.ts.length := by omega
    have dj : decide (j < m.ts.length) = true := decide_eq_true hj
    obtain ⟨⟨x, y, z⟩, hT⟩ : ∃ zz, zz = m.ts[j] := ⟨_, rfl⟩
    have hgd : m.ts.getD ((j : Int)).toNat v0 = ⟨x, y, z⟩ := by rw [hT]; simp [hj]
    rw [hgd] at hres
    have HE : Hid (res = (placeI m.ps.length x && placeI m.ps.length y && placeI m.ps.length z)) := Lib.hid hres
    have HJ := Lib.hid (fun h : j < m.ts.length => (hT.symm : m.ts[j]'h = _))
    clear hres hgd h0 h1 h2 HN hT hi
    go_enter Try.func54, Try.ntmps54
    go_upto_region 1 with (fail)
    rw [← HWW.out]
    clear HWW
    have cHR0 := cell_row HR0.out 0 _ rfl
    have cHR1 := cell_row HR0.out 1 _ rfl
    have cHR2 := cell_row HR0.out 2 _ rfl
    go_wp2_with fail
    refine (CCN.out _ HB0.out).mono ?_
    rintro e y2 ⟨rfl, hb⟩
    have HR1 := Lib.hid (vec_step HR0.out hb)
    have HB1 := Lib.hid (HB0.out.trans (hb.mono HB0.out.size))
    clear HR0 HB0 hb cHR0 cHR1 cHR2 
    go_wp2_with fail
    go_loopg [5] 3 (fun r n5 wr => ∃ k : Int, 0 ≤ k ∧ k + (r : Int) = 3 ∧ n5 = .int .i64 k ∧ Hid (Below y2.heap.size y2 wr ∧ (0 < k → placeI m.ps.length x = true) ∧ (1 < k → placeI m.ps.length y = true) ∧ (2 < k → placeI m.ps.length z = true)))
    case atStart => exact ⟨0, by omega, by omega, rfl, Lib.hid ⟨Below.refl _ _, by omega, by omega, by omega⟩⟩
    case round =>
      obtain ⟨k, hk0, hkr, rfl, hin⟩ := hrel
      have hb := hin.out.1
      have HW0 := Lib.hid hb
      have HR2 := Lib.hid (vec_step HR1.out hb)
      have HB2 := Lib.hid (HB1.out.trans (hb.mono HB1.out.size))
      clear HR1 HB1 hb  
      rcases (show k = 0 ∨ k = 1 ∨ k = 2 ∨ k = 3 by omega) with rfl | rfl | rfl | rfl
      · by_cases h1 : x < 0
        · have e2 : decide (x < 0) = true := decide_eq_true h1
          have hh : res = false := by rw [HE.out]; unfold placeI; rw [decide_eq_false (show ¬ 0 ≤ x by omega)]; simp
          subst hh
          clear hin h1 hk0 hkr
          have cHR1 := cell_row HR2.out 1 _ rfl
          go_upto_region 6 with (fail)
          clear cHR1
          obtain ⟨b9, o9, e, -, u0, u1, u2⟩ := at3 (HTS.out.below HB2.out (Nat.le_refl _)) j hj
          subst e
          rw [HJ.out hj] at u0 u1 u2
          dsimp only at u0 u1 u2
          have fu0 := fun d os => cell_regrown u0 d os
          clear u0 u1 u2
          have fHR0 := fun d os => cell_regrown (cell_row HR2.out 0 _ rfl) d os
          have fHR1 := fun d os => cell_regrown (cell_row HR2.out 1 _ rfl) d os
          refine wp_region_quiet_below (by kernel_rfl) (by kernel_rfl) ?_
          repeat (go_big_quiet_step (first | fail))
          refine wpQuiet_nil ?_
          first | (rintro _ ⟨⟨dq, osq⟩, rfl⟩) | (rintro ⟨dq, osq⟩)
          have hb := below_regrown wr dq osq
          obtain ⟨y3, hW⟩ : ∃ ww, ww = grow (redrawn wr dq) osq := ⟨_, rfl⟩
          rw [← hW] at hb ⊢
          clear hW
          have HR3 := Lib.hid (vec_step HR2.out hb)
          have HB3 := Lib.hid (HB2.out.trans (hb.mono HB2.out.size))
          clear HR2 HB2 hb  fHR0 fHR1
          clear fu0
          go_wp2_with fail
          go_ret
          exact ⟨rfl, HB3.out⟩
        · have e2 : decide (x < 0) = false := decide_eq_false h1
          by_cases h2 : (m.ps.length : Int) ≤ x
          · have e3 : decide ((m.ps.length : Int) ≤ x) = true := decide_eq_true h2
            have hh : res = false := by rw [HE.out]; unfold placeI; rw [decide_eq_false (show ¬ x < (m.ps.length : Int) by omega)]; simp
            subst hh
            clear hin h1 h2 hk0 hkr
            have cHR1 := cell_row HR2.out 1 _ rfl
            go_upto_region 6 with (fail)
            clear cHR1
            obtain ⟨b9, o9, e, -, u0, u1, u2⟩ := at3 (HTS.out.below HB2.out (Nat.le_refl _)) j hj
            subst e
            rw [HJ.out hj] at u0 u1 u2
            dsimp only at u0 u1 u2
            have fu0 := fun d os => cell_regrown u0 d os
            clear u0 u1 u2
            have fHR0 := fun d os => cell_regrown (cell_row HR2.out 0 _ rfl) d os
            have fHR1 := fun d os => cell_regrown (cell_row HR2.out 1 _ rfl) d os
            refine wp_region_quiet_below (by kernel_rfl) (by kernel_rfl) ?_
            repeat (go_big_quiet_step (first | fail))
            refine wpQuiet_nil ?_
            first | (rintro _ ⟨⟨dq, osq⟩, rfl⟩) | (rintro ⟨dq, osq⟩)
            have hb := below_regrown wr dq osq
            obtain ⟨y4, hW⟩ : ∃ ww, ww = grow (redrawn wr dq) osq := ⟨_, rfl⟩
            rw [← hW] at hb ⊢
            clear hW
            have HR3 := Lib.hid (vec_step HR2.out hb)
            have HB3 := Lib.hid (HB2.out.trans (hb.mono HB2.out.size))
            clear HR2 HB2 hb  fHR0 fHR1
            clear fu0
            go_wp2_with fail
            go_ret
            exact ⟨rfl, HB3.out⟩
          · have e3 : decide ((m.ps.length : Int) ≤ x) = false := decide_eq_false h2
            have hp0 : placeI m.ps.length x = true := by unfold placeI; rw [decide_eq_true (show 0 ≤ x by omega), decide_eq_true (show x < (m.ps.length : Int) by omega)]; rfl
            have HPP := Lib.hid (And.intro hp0 True.intro)
            clear hin h1 h2 hp0
            have cHR1 := cell_row HR2.out 1 _ rfl
            go_upto_region 6 with (fail)
            clear cHR1
            obtain ⟨b9, o9, e, -, u0, u1, u2⟩ := at3 (HTS.out.below HB2.out (Nat.le_refl _)) j hj
            subst e
            rw [HJ.out hj] at u0 u1 u2
            dsimp only at u0 u1 u2
            have fu0 := fun d os => cell_regrown u0 d os
            clear u0 u1 u2
            have fHR0 := fun d os => cell_regrown (cell_row HR2.out 0 _ rfl) d os
            have fHR1 := fun d os => cell_regrown (cell_row HR2.out 1 _ rfl) d os
            refine wp_region_quiet_below (by kernel_rfl) (by kernel_rfl) ?_
            repeat (go_big_quiet_step (first | fail))
            refine wpQuiet_nil ?_
            first | (rintro _ ⟨⟨dq, osq⟩, rfl⟩) | (rintro ⟨dq, osq⟩)
            have hb := below_regrown wr dq osq
            have HWK := Lib.hid (HW0.out.trans (hb.mono HW0.out.size))
            obtain ⟨y5, hW⟩ : ∃ ww, ww = grow (redrawn wr dq) osq := ⟨_, rfl⟩
            rw [← hW] at hb HWK ⊢
            clear hW
            have HR3 := Lib.hid (vec_step HR2.out hb)
            have HB3 := Lib.hid (HB2.out.trans (hb.mono HB2.out.size))
            clear HR2 HB2 hb  fHR0 fHR1
            clear fu0
            go_wp2_with fail
            go_roundg 2
            case measure => omega
            case rel => exact ⟨1, by omega, by omega, rfl, Lib.hid ⟨HWK.out, fun _ => HPP.out.1, by omega, by omega⟩⟩
      · by_cases h1 : y < 0
        · have e2 : decide (y < 0) = true := decide_eq_true h1
          have hh : res = false := by rw [HE.out]; unfold placeI; rw [decide_eq_false (show ¬ 0 ≤ y by omega)]; simp
          subst hh
          clear hin h1 hk0 hkr
          have cHR1 := cell_row HR2.out 1 _ rfl
          go_upto_region 6 with (fail)
          clear cHR1
          obtain ⟨b9, o9, e, -, u0, u1, u2⟩ := at3 (HTS.out.below HB2.out (Nat.le_refl _)) j hj
          subst e
          rw [HJ.out hj] at u0 u1 u2
          dsimp only at u0 u1 u2
          have fu1 := fun d os => cell_regrown u1 d os
          clear u0 u1 u2
          have fHR0 := fun d os => cell_regrown (cell_row HR2.out 0 _ rfl) d os
          have fHR1 := fun d os => cell_regrown (cell_row HR2.out 1 _ rfl) d os
          refine wp_region_quiet_below (by kernel_rfl) (by kernel_rfl) ?_
          repeat (go_big_quiet_step (first | fail))
          refine wpQuiet_nil ?_
          first | (rintro _ ⟨⟨dq, osq⟩, rfl⟩) | (rintro ⟨dq, osq⟩)
          have hb := below_regrown wr dq osq
          obtain ⟨y6, hW⟩ : ∃ ww, ww = grow (redrawn wr dq) osq := ⟨_, rfl⟩
          rw [← hW] at hb ⊢
          clear hW
          have HR3 := Lib.hid (vec_step HR2.out hb)
          have HB3 := Lib.hid (HB2.out.trans (hb.mono HB2.out.size))
          clear HR2 HB2 hb  fHR0 fHR1
          clear fu1
          go_wp2_with fail
          go_ret
          exact ⟨rfl, HB3.out⟩
        · have e2 : decide (y < 0) = false := decide_eq_false h1
          by_cases h2 : (m.ps.length : Int) ≤ y
          · have e3 : decide ((m.ps.length : Int) ≤ y) = true := decide_eq_true h2
            have hh : res = false := by rw [HE.out]; unfold placeI; rw [decide_eq_false (show ¬ y < (m.ps.length : Int) by omega)]; simp
            subst hh
            clear hin h1 h2 hk0 hkr
            have cHR1 := cell_row HR2.out 1 _ rfl
            go_upto_region 6 with (fail)
            clear cHR1
            obtain ⟨b9, o9, e, -, u0, u1, u2⟩ := at3 (HTS.out.below HB2.out (Nat.le_refl _)) j hj
            subst e
            rw [HJ.out hj] at u0 u1 u2
            dsimp only at u0 u1 u2
            have fu1 := fun d os => cell_regrown u1 d os
            clear u0 u1 u2
            have fHR0 := fun d os => cell_regrown (cell_row HR2.out 0 _ rfl) d os
            have fHR1 := fun d os => cell_regrown (cell_row HR2.out 1 _ rfl) d os
            refine wp_region_quiet_below (by kernel_rfl) (by kernel_rfl) ?_
            repeat (go_big_quiet_step (first | fail))
            refine wpQuiet_nil ?_
            first | (rintro _ ⟨⟨dq, osq⟩, rfl⟩) | (rintro ⟨dq, osq⟩)
            have hb := below_regrown wr dq osq
            obtain ⟨y7, hW⟩ : ∃ ww, ww = grow (redrawn wr dq) osq := ⟨_, rfl⟩
            rw [← hW] at hb ⊢
            clear hW
            have HR3 := Lib.hid (vec_step HR2.out hb)
            have HB3 := Lib.hid (HB2.out.trans (hb.mono HB2.out.size))
            clear HR2 HB2 hb  fHR0 fHR1
            clear fu1
            go_wp2_with fail
            go_ret
            exact ⟨rfl, HB3.out⟩
          · have e3 : decide ((m.ps.length : Int) ≤ y) = false := decide_eq_false h2
            have hp1 : placeI m.ps.length y = true := by unfold placeI; rw [decide_eq_true (show 0 ≤ y by omega), decide_eq_true (show y < (m.ps.length : Int) by omega)]; rfl
            have hp0 : placeI m.ps.length x = true := hin.out.2.1 (by omega)
            have HPP := Lib.hid (And.intro hp0 hp1)
            clear hin h1 h2 hp0 hp1
            have cHR1 := cell_row HR2.out 1 _ rfl
            go_upto_region 6 with (fail)
            clear cHR1
            obtain ⟨b9, o9, e, -, u0, u1, u2⟩ := at3 (HTS.out.below HB2.out (Nat.le_refl _)) j hj
            subst e
            rw [HJ.out hj] at u0 u1 u2
            dsimp only at u0 u1 u2
            have fu1 := fun d os => cell_regrown u1 d os
            clear u0 u1 u2
            have fHR0 := fun d os => cell_regrown (cell_row HR2.out 0 _ rfl) d os
            have fHR1 := fun d os => cell_regrown (cell_row HR2.out 1 _ rfl) d os
            refine wp_region_quiet_below (by kernel_rfl) (by kernel_rfl) ?_
            repeat (go_big_quiet_step (first | fail))
            refine wpQuiet_nil ?_
            first | (rintro _ ⟨⟨dq, osq⟩, rfl⟩) | (rintro ⟨dq, osq⟩)
            have hb := below_regrown wr dq osq
            have HWK := Lib.hid (HW0.out.trans (hb.mono HW0.out.size))
            obtain ⟨y8, hW⟩ : ∃ ww, ww = grow (redrawn wr dq) osq := ⟨_, rfl⟩
            rw [← hW] at hb HWK ⊢
            clear hW
            have HR3 := Lib.hid (vec_step HR2.out hb)
            have HB3 := Lib.hid (HB2.out.trans (hb.mono HB2.out.size))
            clear HR2 HB2 hb  fHR0 fHR1
            clear fu1
            go_wp2_with fail
            go_roundg 1
            case measure => omega
            case rel => exact ⟨2, by omega, by omega, rfl, Lib.hid ⟨HWK.out, fun _ => HPP.out.1, fun _ => HPP.out.2, by omega⟩⟩
      · by_cases h1 : z < 0
        · have e2 : decide (z < 0) = true := decide_eq_true h1
          have hh : res = false := by rw [HE.out]; unfold placeI; rw [decide_eq_false (show ¬ 0 ≤ z by omega)]; simp
          subst hh
          clear hin h1 hk0 hkr
          have cHR1 := cell_row HR2.out 1 _ rfl
          go_upto_region 6 with (fail)
          clear cHR1
          obtain ⟨b9, o9, e, -, u0, u1, u2⟩ := at3 (HTS.out.below HB2.out (Nat.le_refl _)) j hj
          subst e
          rw [HJ.out hj] at u0 u1 u2
          dsimp only at u0 u1 u2
          have fu2 := fun d os => cell_regrown u2 d os
          clear u0 u1 u2
          have fHR0 := fun d os => cell_regrown (cell_row HR2.out 0 _ rfl) d os
          have fHR1 := fun d os => cell_regrown (cell_row HR2.out 1 _ rfl) d os
          refine wp_region_quiet_below (by kernel_rfl) (by kernel_rfl) ?_
          repeat (go_big_quiet_step (first | fail))
          refine wpQuiet_nil ?_
          first | (rintro _ ⟨⟨dq, osq⟩, rfl⟩) | (rintro ⟨dq, osq⟩)
          have hb := below_regrown wr dq osq
          obtain ⟨y9, hW⟩ : ∃ ww, ww = grow (redrawn wr dq) osq := ⟨_, rfl⟩
          rw [← hW] at hb ⊢
          clear hW
          have HR3 := Lib.hid (vec_step HR2.out hb)
          have HB3 := Lib.hid (HB2.out.trans (hb.mono HB2.out.size))
          clear HR2 HB2 hb  fHR0 fHR1
          clear fu2
          go_wp2_with fail
          go_ret
          exact ⟨rfl, HB3.out⟩
        · have e2 : decide (z < 0) = false := decide_eq_false h1
          by_cases h2 : (m.ps.length : Int) ≤ z
          · have e3 : decide ((m.ps.length : Int) ≤ z) = true := decide_eq_true h2
            have hh : res = false := by rw [HE.out]; unfold placeI; rw [decide_eq_false (show ¬ z < (m.ps.length : Int) by omega)]; simp
            subst hh
            clear hin h1 h2 hk0 hkr
            have cHR1 := cell_row HR2.out 1 _ rfl
            go_upto_region 6 with (fail)
            clear cHR1
            obtain ⟨b9, o9, e, -, u0, u1, u2⟩ := at3 (HTS.out.below HB2.out (Nat.le_refl _)) j hj
            subst e
            rw [HJ.out hj] at u0 u1 u2
            dsimp only at u0 u1 u2
            have fu2 := fun d os => cell_regrown u2 d os
            clear u0 u1 u2
            have fHR0 := fun d os => cell_regrown (cell_row HR2.out 0 _ rfl) d os
            have fHR1 := fun d os => cell_regrown (cell_row HR2.out 1 _ rfl) d os
            refine wp_region_quiet_below (by kernel_rfl) (by kernel_rfl) ?_
            repeat (go_big_quiet_step (first | fail))
            refine wpQuiet_nil ?_
            first | (rintro _ ⟨⟨dq, osq⟩, rfl⟩) | (rintro ⟨dq, osq⟩)
            have hb := below_regrown wr dq osq
            obtain ⟨y10, hW⟩ : ∃ ww, ww = grow (redrawn wr dq) osq := ⟨_, rfl⟩
            rw [← hW] at hb ⊢
            clear hW
            have HR3 := Lib.hid (vec_step HR2.out hb)
            have HB3 := Lib.hid (HB2.out.trans (hb.mono HB2.out.size))
            clear HR2 HB2 hb  fHR0 fHR1
            clear fu2
            go_wp2_with fail
            go_ret
            exact ⟨rfl, HB3.out⟩
          · have e3 : decide ((m.ps.length : Int) ≤ z) = false := decide_eq_false h2
            have hp2 : placeI m.ps.length z = true := by unfold placeI; rw [decide_eq_true (show 0 ≤ z by omega), decide_eq_true (show z < (m.ps.length : Int) by omega)]; rfl
            have hp0 : placeI m.ps.length x = true := hin.out.2.1 (by omega)
            have hp1 : placeI m.ps.length y = true := hin.out.2.2.1 (by omega)
            have HPP := Lib.hid (And.intro hp0 (And.intro hp1 hp2))
            clear hin h1 h2 hp0 hp1 hp2
            have cHR1 := cell_row HR2.out 1 _ rfl
            go_upto_region 6 with (fail)
            clear cHR1
            obtain ⟨b9, o9, e, -, u0, u1, u2⟩ := at3 (HTS.out.below HB2.out (Nat.le_refl _)) j hj
            subst e
            rw [HJ.out hj] at u0 u1 u2
            dsimp only at u0 u1 u2
            have fu2 := fun d os => cell_regrown u2 d os
            clear u0 u1 u2
            have fHR0 := fun d os => cell_regrown (cell_row HR2.out 0 _ rfl) d os
            have fHR1 := fun d os => cell_regrown (cell_row HR2.out 1 _ rfl) d os
            refine wp_region_quiet_below (by kernel_rfl) (by kernel_rfl) ?_
            repeat (go_big_quiet_step (first | fail))
            refine wpQuiet_nil ?_
            first | (rintro _ ⟨⟨dq, osq⟩, rfl⟩) | (rintro ⟨dq, osq⟩)
            have hb := below_regrown wr dq osq
            have HWK := Lib.hid (HW0.out.trans (hb.mono HW0.out.size))
            obtain ⟨y11, hW⟩ : ∃ ww, ww = grow (redrawn wr dq) osq := ⟨_, rfl⟩
            rw [← hW] at hb HWK ⊢
            clear hW
            have HR3 := Lib.hid (vec_step HR2.out hb)
            have HB3 := Lib.hid (HB2.out.trans (hb.mono HB2.out.size))
            clear HR2 HB2 hb  fHR0 fHR1
            clear fu2
            go_wp2_with fail
            go_roundg 0
            case measure => omega
            case rel => exact ⟨3, by omega, by omega, rfl, Lib.hid ⟨HWK.out, fun _ => HPP.out.1, fun _ => HPP.out.2.1, fun _ => HPP.out.2.2⟩⟩
      · have px := hin.out.2.1 (by omega)
        have py := hin.out.2.2.1 (by omega)
        have pz := hin.out.2.2.2 (by omega)
        have hh : res = true := by rw [HE.out, px, py, pz]; rfl
        subst hh
        clear px py pz hin hk0 hkr
        have cHR1 := cell_row HR2.out 1 _ rfl
        go_wp2_with fail
        go_ret
        exact ⟨rfl, HB2.out⟩
  · have d2 : decide (i < (m.ts.length : Int)) = false := decide_eq_false h2
    rw [if_neg h2] at hres
    subst hres
    clear h0 h1 h2 HN hi
    go_enter Try.func54, Try.ntmps54
    go_upto_region 1 with (fail)
    rw [← HWW.out]
    clear HWW
    have cHR0 := cell_row HR0.out 0 _ rfl
    have cHR1 := cell_row HR0.out 1 _ rfl
    have cHR2 := cell_row HR0.out 2 _ rfl
    go_wp2_with fail
    refine (CCN.out _ HB0.out).mono ?_
    rintro e y12 ⟨rfl, hb⟩
    have HR1 := Lib.hid (vec_step HR0.out hb)
    have HB1 := Lib.hid (HB0.out.trans (hb.mono HB0.out.size))
    clear HR0 HB0 hb cHR0 cHR1 cHR2 
    have cHR1 := cell_row HR1.out 1 _ rfl
    go_wp2_with fail
    go_loopg [5] 0 (fun r n5 wr => n5 = .int .i64 0 ∧ wr = y12)
    case atStart => exact ⟨rfl, rfl⟩
    case round =>
      obtain ⟨rfl, rfl⟩ := hrel
      go_wp2_with fail
      go_ret
      exact ⟨rfl, HB1.out⟩

end Go.Proofs.Ytdmmbhcaejojeaa.HitR2
