/- The walks of ref12's near, there and Check. -/
import Derived.Test.YtdmmjmdnljhooaaMeshC
set_option linter.unusedVariables false
set_option linter.unusedSimpArgs false
namespace Go.Proofs.Ytdmmjmdnljhooaa.MeshD
open Go.RowKit Go.Sort FixM Base Num Qb Qt VecW VecV VecU LightQ LightC MeshM Rec MeshA MeshB MeshC

theorem vec_step {W W' : World} {g : Nat} {o : Obj} (h : W.heap[g]? = some o) (hb : Below W.heap.size W W') : W'.heap[g]? = some o := (hb.block _ (lt_of_heap h)).trans h

set_option maxRecDepth 100000 in
theorem rnear_any (x : Int) (w : World) : Calls Try.prog 46 #[.int .i64 x] w (fun e w' => e = .returned (.bool (nearI x)) ∧ w = w') := by
  unfold nearI
  by_cases h1 : -4503599627370496 ≤ x
  · by_cases h2 : x ≤ 4503599627370496
    · have d1 : decide (-4503599627370496 ≤ x) = true := decide_eq_true h1
      have d2 : decide (x ≤ 4503599627370496) = true := decide_eq_true h2
      rw [d1, d2]
      clear h1 h2
      go_enter Try.func46, Try.ntmps46
      go_wp2_with fail
      go_ret
      exact ⟨rfl, rfl⟩
    · have d1 : decide (-4503599627370496 ≤ x) = true := decide_eq_true h1
      have d2 : decide (x ≤ 4503599627370496) = false := decide_eq_false h2
      rw [d1, d2]
      clear h1 h2
      go_enter Try.func46, Try.ntmps46
      go_wp2_with fail
      go_ret
      exact ⟨rfl, rfl⟩
  · have d1 : decide (-4503599627370496 ≤ x) = false := decide_eq_false h1
    rw [d1]
    clear h1
    go_enter Try.func46, Try.ntmps46
    go_wp2_with fail
    go_ret
    exact ⟨rfl, rfl⟩

abbrev mrow (a0 : Option Addr) (n0 c0 : Nat) (a1 : Option Addr) (n1 c1 : Nat) (a2 : Option Addr) (n2 c2 : Nat) : Array Value := #[.slice a0 n0 c0, .slice a1 n1 c1, .slice a2 n2 c2]
set_option maxRecDepth 100000 in
set_option maxHeartbeats 1000000 in
theorem there_any (a0 : Option Addr) (n c0 : Nat) (v1 v2 : Value) (hn : n ≤ 9223372036854775807) (t : V3) (w : World) : Calls Try.prog 41 #[.agg #[.slice a0 n c0, v1, v2], vecV t] w (VTo (.bool (hasF n t)) w) := by
  obtain ⟨x, y, z⟩ := t
  unfold hasF
  obtain ⟨a, ha⟩ : ∃ a, a = placeI n x := ⟨_, rfl⟩
  obtain ⟨b, hb⟩ : ∃ a, a = placeI n y := ⟨_, rfl⟩
  obtain ⟨c, hc⟩ : ∃ a, a = placeI n z := ⟨_, rfl⟩
  rw [← ha, ← hb, ← hc]
  unfold placeI at ha hb hc
  have HA := Lib.hid ha
  have HBB := Lib.hid hb
  have HC := Lib.hid hc
  clear ha hb hc
  have HB := Lib.hid (alloc2_below w (.cells #[.slice a0 n c0, v1, v2] 30) (.cells #[.int .i64 x, .int .i64 y, .int .i64 z] 31))
  have G0 := Lib.hid (alloc2_0 w (.cells #[.slice a0 n c0, v1, v2] 30) (.cells #[.int .i64 x, .int .i64 y, .int .i64 z] 31))
  have G1 := Lib.hid (alloc2_1 w (.cells #[.slice a0 n c0, v1, v2] 30) (.cells #[.int .i64 x, .int .i64 y, .int .i64 z] 31))
  go_enter Try.func41, Try.ntmps41
  go_wp2_with fail
  generalize (w.alloc (.cells #[.slice a0 n c0, v1, v2] 30)).alloc (.cells #[.int .i64 x, .int .i64 y, .int .i64 z] 31) = W at *
  go_loopg [5] 3 (fun r n8 wr => ∃ i : Int, 0 ≤ i ∧ i + (r : Int) = 3 ∧ n8 = .int .i64 i ∧ Below W.heap.size W wr ∧ Hid ((0 < i → a = true) ∧ (1 < i → b = true) ∧ (2 < i → c = true)))
  case atStart => exact ⟨0, by omega, by omega, rfl, Below.refl _ _, Lib.hid ⟨by omega, by omega, by omega⟩⟩
  case round =>
    obtain ⟨i, hi0, hir, rfl, hbw, hin⟩ := hrel
    have H0 := Lib.hid (vec_step G0.out hbw)
    have H1 := Lib.hid (vec_step G1.out hbw)
    have HBW := Lib.hid hbw
    clear hbw
    rcases (show i = 0 ∨ i = 1 ∨ i = 2 ∨ i = 3 by omega) with rfl | rfl | rfl | rfl
    · by_cases h1 : x < 0
      · have d1 : decide (x < 0) = true := decide_eq_true h1
        have hh : a = false := by rw [HA.out, decide_eq_false (by omega)]; rfl
        have HH := Lib.hid hh
        clear h1 hh
        have m0 := cell_all H0.out 0 (.slice a0 n c0) rfl
        have t0 := cell_all H1.out 0 (.int .i64 x) rfl
        go_upto_region 4 with (fail)
        refine wp_region_quiet_below (by kernel_rfl) (by kernel_rfl) ?_
        repeat (go_big_quiet_step (fail))
        refine wpQuiet_nil ?_
        first | (rintro _ ⟨⟨dq, osq⟩, rfl⟩) | (rintro ⟨dq, osq⟩)
        have HN := Lib.hid (HBW.out.trans ((below_regrown wr dq osq).mono HBW.out.size))
        clear m0 t0
        go_wp2_with fail
        go_ret
        refine ⟨?_, HB.out.trans (HN.out.mono HB.out.size)⟩
        have hh := HH.out
        rw [hh]; first | rfl | (cases a <;> rfl) | (cases a <;> cases b <;> rfl)
      · have d1 : decide (x < 0) = false := decide_eq_false h1
        by_cases h2 : (n : Int) ≤ x
        · have d2 : decide ((n : Int) ≤ x) = true := decide_eq_true h2
          have hh : a = false := by rw [HA.out, decide_eq_false (show ¬ x < (n : Int) by omega)]; cases decide (0 ≤ x) <;> rfl
          have HH := Lib.hid hh
          clear h1 hh h2
          have m0 := cell_all H0.out 0 (.slice a0 n c0) rfl
          have t0 := cell_all H1.out 0 (.int .i64 x) rfl
          go_upto_region 4 with (fail)
          refine wp_region_quiet_below (by kernel_rfl) (by kernel_rfl) ?_
          repeat (go_big_quiet_step (fail))
          refine wpQuiet_nil ?_
          first | (rintro _ ⟨⟨dq, osq⟩, rfl⟩) | (rintro ⟨dq, osq⟩)
          have HN := Lib.hid (HBW.out.trans ((below_regrown wr dq osq).mono HBW.out.size))
          clear m0 t0
          go_wp2_with fail
          go_ret
          refine ⟨?_, HB.out.trans (HN.out.mono HB.out.size)⟩
          have hh := HH.out
          rw [hh]; first | rfl | (cases a <;> rfl) | (cases a <;> cases b <;> rfl)
        · have d2 : decide ((n : Int) ≤ x) = false := decide_eq_false h2
          have hh : a = true := by rw [HA.out, decide_eq_true (show x < (n : Int) by omega), decide_eq_true (show 0 ≤ x by omega)]; rfl
          have HH := Lib.hid hh
          clear h1 hh h2
          have m0 := cell_all H0.out 0 (.slice a0 n c0) rfl
          have t0 := cell_all H1.out 0 (.int .i64 x) rfl
          go_upto_region 4 with (fail)
          refine wp_region_quiet_below (by kernel_rfl) (by kernel_rfl) ?_
          repeat (go_big_quiet_step (fail))
          refine wpQuiet_nil ?_
          first | (rintro _ ⟨⟨dq, osq⟩, rfl⟩) | (rintro ⟨dq, osq⟩)
          have HN := Lib.hid (HBW.out.trans ((below_regrown wr dq osq).mono HBW.out.size))
          clear m0 t0
          go_wp2_with fail
          go_roundg 2
          case measure => omega
          case rel =>
            have hh := HH.out
            have h0 := hin.out
            exact ⟨1, by omega, by omega, rfl, HN.out, Lib.hid ⟨fun _ => hh, by omega, by omega⟩⟩
    · by_cases h1 : y < 0
      · have d1 : decide (y < 0) = true := decide_eq_true h1
        have hh : b = false := by rw [HBB.out, decide_eq_false (by omega)]; rfl
        have HH := Lib.hid hh
        clear h1 hh
        have m0 := cell_all H0.out 0 (.slice a0 n c0) rfl
        have t0 := cell_all H1.out 1 (.int .i64 y) rfl
        go_upto_region 4 with (fail)
        refine wp_region_quiet_below (by kernel_rfl) (by kernel_rfl) ?_
        repeat (go_big_quiet_step (fail))
        refine wpQuiet_nil ?_
        first | (rintro _ ⟨⟨dq, osq⟩, rfl⟩) | (rintro ⟨dq, osq⟩)
        have HN := Lib.hid (HBW.out.trans ((below_regrown wr dq osq).mono HBW.out.size))
        clear m0 t0
        go_wp2_with fail
        go_ret
        refine ⟨?_, HB.out.trans (HN.out.mono HB.out.size)⟩
        have hh := HH.out
        rw [hh]; first | rfl | (cases a <;> rfl) | (cases a <;> cases b <;> rfl)
      · have d1 : decide (y < 0) = false := decide_eq_false h1
        by_cases h2 : (n : Int) ≤ y
        · have d2 : decide ((n : Int) ≤ y) = true := decide_eq_true h2
          have hh : b = false := by rw [HBB.out, decide_eq_false (show ¬ y < (n : Int) by omega)]; cases decide (0 ≤ y) <;> rfl
          have HH := Lib.hid hh
          clear h1 hh h2
          have m0 := cell_all H0.out 0 (.slice a0 n c0) rfl
          have t0 := cell_all H1.out 1 (.int .i64 y) rfl
          go_upto_region 4 with (fail)
          refine wp_region_quiet_below (by kernel_rfl) (by kernel_rfl) ?_
          repeat (go_big_quiet_step (fail))
          refine wpQuiet_nil ?_
          first | (rintro _ ⟨⟨dq, osq⟩, rfl⟩) | (rintro ⟨dq, osq⟩)
          have HN := Lib.hid (HBW.out.trans ((below_regrown wr dq osq).mono HBW.out.size))
          clear m0 t0
          go_wp2_with fail
          go_ret
          refine ⟨?_, HB.out.trans (HN.out.mono HB.out.size)⟩
          have hh := HH.out
          rw [hh]; first | rfl | (cases a <;> rfl) | (cases a <;> cases b <;> rfl)
        · have d2 : decide ((n : Int) ≤ y) = false := decide_eq_false h2
          have hh : b = true := by rw [HBB.out, decide_eq_true (show y < (n : Int) by omega), decide_eq_true (show 0 ≤ y by omega)]; rfl
          have HH := Lib.hid hh
          clear h1 hh h2
          have m0 := cell_all H0.out 0 (.slice a0 n c0) rfl
          have t0 := cell_all H1.out 1 (.int .i64 y) rfl
          go_upto_region 4 with (fail)
          refine wp_region_quiet_below (by kernel_rfl) (by kernel_rfl) ?_
          repeat (go_big_quiet_step (fail))
          refine wpQuiet_nil ?_
          first | (rintro _ ⟨⟨dq, osq⟩, rfl⟩) | (rintro ⟨dq, osq⟩)
          have HN := Lib.hid (HBW.out.trans ((below_regrown wr dq osq).mono HBW.out.size))
          clear m0 t0
          go_wp2_with fail
          go_roundg 1
          case measure => omega
          case rel =>
            have hh := HH.out
            have h0 := hin.out
            exact ⟨2, by omega, by omega, rfl, HN.out, Lib.hid ⟨fun _ => h0.1 (by omega), fun _ => hh, by omega⟩⟩
    · by_cases h1 : z < 0
      · have d1 : decide (z < 0) = true := decide_eq_true h1
        have hh : c = false := by rw [HC.out, decide_eq_false (by omega)]; rfl
        have HH := Lib.hid hh
        clear h1 hh
        have m0 := cell_all H0.out 0 (.slice a0 n c0) rfl
        have t0 := cell_all H1.out 2 (.int .i64 z) rfl
        go_upto_region 4 with (fail)
        refine wp_region_quiet_below (by kernel_rfl) (by kernel_rfl) ?_
        repeat (go_big_quiet_step (fail))
        refine wpQuiet_nil ?_
        first | (rintro _ ⟨⟨dq, osq⟩, rfl⟩) | (rintro ⟨dq, osq⟩)
        have HN := Lib.hid (HBW.out.trans ((below_regrown wr dq osq).mono HBW.out.size))
        clear m0 t0
        go_wp2_with fail
        go_ret
        refine ⟨?_, HB.out.trans (HN.out.mono HB.out.size)⟩
        have hh := HH.out
        rw [hh]; first | rfl | (cases a <;> rfl) | (cases a <;> cases b <;> rfl)
      · have d1 : decide (z < 0) = false := decide_eq_false h1
        by_cases h2 : (n : Int) ≤ z
        · have d2 : decide ((n : Int) ≤ z) = true := decide_eq_true h2
          have hh : c = false := by rw [HC.out, decide_eq_false (show ¬ z < (n : Int) by omega)]; cases decide (0 ≤ z) <;> rfl
          have HH := Lib.hid hh
          clear h1 hh h2
          have m0 := cell_all H0.out 0 (.slice a0 n c0) rfl
          have t0 := cell_all H1.out 2 (.int .i64 z) rfl
          go_upto_region 4 with (fail)
          refine wp_region_quiet_below (by kernel_rfl) (by kernel_rfl) ?_
          repeat (go_big_quiet_step (fail))
          refine wpQuiet_nil ?_
          first | (rintro _ ⟨⟨dq, osq⟩, rfl⟩) | (rintro ⟨dq, osq⟩)
          have HN := Lib.hid (HBW.out.trans ((below_regrown wr dq osq).mono HBW.out.size))
          clear m0 t0
          go_wp2_with fail
          go_ret
          refine ⟨?_, HB.out.trans (HN.out.mono HB.out.size)⟩
          have hh := HH.out
          rw [hh]; first | rfl | (cases a <;> rfl) | (cases a <;> cases b <;> rfl)
        · have d2 : decide ((n : Int) ≤ z) = false := decide_eq_false h2
          have hh : c = true := by rw [HC.out, decide_eq_true (show z < (n : Int) by omega), decide_eq_true (show 0 ≤ z by omega)]; rfl
          have HH := Lib.hid hh
          clear h1 hh h2
          have m0 := cell_all H0.out 0 (.slice a0 n c0) rfl
          have t0 := cell_all H1.out 2 (.int .i64 z) rfl
          go_upto_region 4 with (fail)
          refine wp_region_quiet_below (by kernel_rfl) (by kernel_rfl) ?_
          repeat (go_big_quiet_step (fail))
          refine wpQuiet_nil ?_
          first | (rintro _ ⟨⟨dq, osq⟩, rfl⟩) | (rintro ⟨dq, osq⟩)
          have HN := Lib.hid (HBW.out.trans ((below_regrown wr dq osq).mono HBW.out.size))
          clear m0 t0
          go_wp2_with fail
          go_roundg 0
          case measure => omega
          case rel =>
            have hh := HH.out
            have h0 := hin.out
            exact ⟨3, by omega, by omega, rfl, HN.out, Lib.hid ⟨fun _ => h0.1 (by omega), fun _ => h0.2.1 (by omega), fun _ => hh⟩⟩
    · go_wp2_with fail
      go_ret
      have h0 := hin.out
      exact ⟨by rw [h0.1 (by omega), h0.2.1 (by omega), h0.2.2 (by omega)]; rfl, HB.out.trans (HBW.out.mono HB.out.size)⟩
end Go.Proofs.Ytdmmjmdnljhooaa.MeshD
