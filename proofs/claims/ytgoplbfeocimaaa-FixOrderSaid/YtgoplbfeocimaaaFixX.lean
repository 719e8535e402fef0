/- The laws of layer 1, over any numbers. -/
import Derived.Test.YtgoplbfeocimaaaFixY
set_option linter.unusedVariables false
set_option linter.unusedSimpArgs false
namespace Go.Proofs.Ytgoplbfeocimaaa.FixX
open Go.RowKit FixM Base Num FixW FixV FixU FixT FixS FixO FixN FixK FixP FixY

set_option maxRecDepth 100000 in
set_option maxHeartbeats 8000000 in
theorem tells_any (a b n : Int) (ha1 : -9223372036854775808 ≤ a) (ha2 : a ≤ 9223372036854775807) (hb1 : -9223372036854775808 ≤ b) (hb2 : b ≤ 9223372036854775807) (hn1 : -9223372036854775808 ≤ n) (hn2 : n ≤ 9223372036854775807) (w : World) : Calls Try.prog 9 #[.int .i64 a, .int .i64 b, .int .i64 n] w fun e w' => e = .returned (.bool true) ∧ Below w.heap.size w w' := by
  go_enter Try.func9, Try.ntmps9
  go_wp2_with fail
  refine (of_any n hn1 hn2 _).mono ?_
  rintro e w1 ⟨rfl, rfl⟩
  go_wp2_with fail
  refine (rof_any n hn1 hn2 _).mono ?_
  rintro e w1 ⟨rfl, rfl⟩
  go_wp2_with fail
  refine (floor_any a ha1 ha2 _).mono ?_
  rintro e w1 ⟨rfl, rfl⟩
  go_wp2_with fail
  refine (rfloor_any a ha1 ha2 _).mono ?_
  rintro e w1 ⟨rfl, rfl⟩
  go_wp2_with fail
  refine (add_any a b ha1 ha2 hb1 hb2 _).mono ?_
  rintro e w1 ⟨rfl, rfl⟩
  go_wp2_with fail
  refine (radd_any a b ha1 ha2 hb1 hb2 _).mono ?_
  rintro e w1 ⟨rfl, rfl⟩
  go_wp2_with fail
  refine (sub_any a b ha1 ha2 hb1 hb2 _).mono ?_
  rintro e w1 ⟨rfl, rfl⟩
  go_wp2_with fail
  refine (rsub_any a b ha1 ha2 hb1 hb2 _).mono ?_
  rintro e w1 ⟨rfl, rfl⟩
  go_wp2_with fail
  refine (neg_any a ha1 ha2 _).mono ?_
  rintro e w1 ⟨rfl, rfl⟩
  go_wp2_with fail
  refine (rneg_any a ha1 ha2 _).mono ?_
  rintro e w1 ⟨rfl, rfl⟩
  go_wp2_with fail
  refine (mul_any a b ha1 ha2 hb1 hb2 _).mono ?_
  rintro e w1 ⟨rfl, rfl⟩
  go_wp2_with fail
  refine (rmul_any a b ha1 ha2 hb1 hb2 _).mono ?_
  rintro e w1 ⟨rfl, rfl⟩
  go_wp2_with fail
  refine (div_any a b ha1 ha2 hb1 hb2 _).mono ?_
  rintro e w1 ⟨rfl, n0, rfl⟩
  go_wp2_with fail
  refine (rdiv_any a b ha1 ha2 hb1 hb2 _).mono ?_
  rintro e w1 ⟨rfl, rfl⟩
  go_wp2_with fail
  refine (sqrt_any a ha1 ha2 _).mono ?_
  rintro e w1 ⟨rfl, rfl⟩
  go_wp2_with fail
  refine (rsqrt_any a ha1 ha2 _).mono ?_
  rintro e w1 ⟨rfl, rfl⟩
  go_wp2_with fail
  refine (sin_any a ha1 ha2 _).mono ?_
  rintro e w1 ⟨rfl, rfl⟩
  go_wp2_with fail
  refine (rsin_any a ha1 ha2 _).mono ?_
  rintro e w1 ⟨rfl, rfl⟩
  go_wp2_with fail
  refine (cos_any a ha1 ha2 _).mono ?_
  rintro e w1 ⟨rfl, rfl⟩
  go_wp2_with fail
  refine (rcos_any a ha1 ha2 _).mono ?_
  rintro e w1 ⟨rfl, rfl⟩
  go_wp2_with fail
  refine (awake_any _).mono ?_
  rintro e w1 ⟨rfl, n99, rfl⟩
  go_wp2_with fail
  go_ret
  simp only [World.drewN_drewN]
  exact ⟨rfl, belowDN _ _⟩

set_option maxRecDepth 100000 in
set_option maxHeartbeats 8000000 in
theorem order_any (a b c : Int) (ha1 : -9223372036854775808 ≤ a) (ha2 : a ≤ 9223372036854775807) (hb1 : -9223372036854775808 ≤ b) (hb2 : b ≤ 9223372036854775807) (hc1 : -9223372036854775808 ≤ c) (hc2 : c ≤ 9223372036854775807) (w : World) : Calls Try.prog 7 #[.int .i64 a, .int .i64 b, .int .i64 c] w fun e w' => e = .returned (.bool true) ∧ Below w.heap.size w w' := by
  by_cases hab : b < a
  · skip
    have E1 := Lib.hid (mulF_one hb1 hb2)
    have E2 := Lib.hid (divF_one hb1 hb2)
    have E3 := Lib.hid (addF_zero hb1 hb2)
    have E4 := Lib.hid (mulF_zero b)
    have f1 : (addF b a != addF a b) = false := by rw [addF_comm]; simp
    have f2 : (mulF b a != mulF a b) = false := by rw [mulF_comm]; simp
    have f3 : decide (addF a c < addF b c) = false := decide_eq_false (by have := addF_mono (a := b) (b := a) c (by omega); omega)
    have f4 : decide (subF c b < subF c a) = false := decide_eq_false (by have := subF_anti (a := b) (b := a) c (by omega); omega)
    have f5 : decide (negF b < negF a) = false := decide_eq_false (by have := negF_anti (a := b) (b := a) (by omega); omega)
    have f6 : decide (sqrtF a < sqrtF b) = false := decide_eq_false (by have := sqrtF_mono (a := b) (b := a) (by omega) (by omega); omega)
    have f7 : decide (floorF a < floorF b) = false := decide_eq_false (by have := floorF_mono (a := b) (b := a) (by omega); omega)
    go_enter Try.func7, Try.ntmps7
    go_wp2_with fail
    refine (add_any b a hb1 hb2 ha1 ha2 _).mono ?_
    rintro e w1 ⟨rfl, rfl⟩
    go_wp2_with fail
    refine (add_any a b ha1 ha2 hb1 hb2 _).mono ?_
    rintro e w1 ⟨rfl, rfl⟩
    go_wp2_with fail
    refine (mul_any b a hb1 hb2 ha1 ha2 _).mono ?_
    rintro e w1 ⟨rfl, rfl⟩
    go_wp2_with fail
    refine (mul_any a b ha1 ha2 hb1 hb2 _).mono ?_
    rintro e w1 ⟨rfl, rfl⟩
    go_wp2_with fail
    refine (add_any b c hb1 hb2 hc1 hc2 _).mono ?_
    rintro e w1 ⟨rfl, rfl⟩
    go_wp2_with fail
    refine (add_any a c ha1 ha2 hc1 hc2 _).mono ?_
    rintro e w1 ⟨rfl, rfl⟩
    go_wp2_with fail
    refine (sub_any c a hc1 hc2 ha1 ha2 _).mono ?_
    rintro e w1 ⟨rfl, rfl⟩
    go_wp2_with fail
    refine (sub_any c b hc1 hc2 hb1 hb2 _).mono ?_
    rintro e w1 ⟨rfl, rfl⟩
    go_wp2_with fail
    refine (neg_any a ha1 ha2 _).mono ?_
    rintro e w1 ⟨rfl, rfl⟩
    go_wp2_with fail
    refine (neg_any b hb1 hb2 _).mono ?_
    rintro e w1 ⟨rfl, rfl⟩
    go_wp2_with fail
    refine (sqrt_any b hb1 hb2 _).mono ?_
    rintro e w1 ⟨rfl, rfl⟩
    go_wp2_with fail
    refine (sqrt_any a ha1 ha2 _).mono ?_
    rintro e w1 ⟨rfl, rfl⟩
    go_wp2_with fail
    refine (floor_any b hb1 hb2 _).mono ?_
    rintro e w1 ⟨rfl, rfl⟩
    go_wp2_with fail
    refine (floor_any a ha1 ha2 _).mono ?_
    rintro e w1 ⟨rfl, rfl⟩
    rcases (show c < 0 ∨ c = 0 ∨ 0 < c by omega) with k | rfl | k
    · have g0 : ¬ 0 ≤ c := by omega
      have g1 : decide (mulF b c < mulF a c) = false := decide_eq_false (by have := mulF_anti (a := b) (b := a) (by omega) k; omega)
      have g2 : decide (divF b c < divF a c) = false := decide_eq_false (by have := divF_anti (a := b) (b := a) (by omega) k; omega)
      go_wp2_with fail
      refine (mul_any b c hb1 hb2 hc1 hc2 _).mono ?_
      rintro e w1 ⟨rfl, rfl⟩
      go_wp2_with fail
      refine (mul_any a c ha1 ha2 hc1 hc2 _).mono ?_
      rintro e w1 ⟨rfl, rfl⟩
      go_wp2_with fail
      refine (div_any b c hb1 hb2 hc1 hc2 _).mono ?_
      rintro e w1 ⟨rfl, n0, rfl⟩
      go_wp2_with fail
      refine (div_any a c ha1 ha2 hc1 hc2 _).mono ?_
      rintro e w1 ⟨rfl, n0, rfl⟩
      go_wp2_with fail
      refine (sub_any b c hb1 hb2 hc1 hc2 _).mono ?_
      rintro e w1 ⟨rfl, rfl⟩
      have hd := clamp_in (b - c)
      obtain ⟨d, hdd⟩ : ∃ d, d = subF b c := ⟨_, rfl⟩
      have hd1 : -9223372036854775808 ≤ d := by rw [hdd]; exact hd.1
      have hd2 : d ≤ 9223372036854775807 := by rw [hdd]; exact hd.2
      have HD := Lib.hid hdd
      rw [← hdd]
      clear hd hdd
      by_cases k1 : -9223372036854775808 < d
      · by_cases k2 : d < 9223372036854775807
        · have hs : addF d c = b := by rw [HD.out]; exact sub_add hb1 hb2 (by rw [← HD.out]; exact k1) (by rw [← HD.out]; exact k2)
          have HS := Lib.hid hs
          clear hs
          go_wp2_with fail
          refine (add_any d c hd1 hd2 hc1 hc2 _).mono ?_
          rintro e w1 ⟨rfl, rfl⟩
          rw [HS.out]
          go_wp2_with fail
          refine (mul_any b 4294967296 hb1 hb2 (by decide) (by decide) _).mono ?_
          rintro e w1 ⟨rfl, rfl⟩
          rw [E1.out]
          go_wp2_with fail
          refine (div_any b 4294967296 hb1 hb2 (by decide) (by decide) _).mono ?_
          rintro e w1 ⟨rfl, n0, rfl⟩
          rw [E2.out]
          go_wp2_with fail
          refine (add_any b 0 hb1 hb2 (by decide) (by decide) _).mono ?_
          rintro e w1 ⟨rfl, rfl⟩
          rw [E3.out]
          go_wp2_with fail
          refine (mul_any b 0 hb1 hb2 (by decide) (by decide) _).mono ?_
          rintro e w1 ⟨rfl, rfl⟩
          rw [E4.out]
          go_wp2_with fail
          refine (awake_any _).mono ?_
          rintro e w1 ⟨rfl, n99, rfl⟩
          go_wp2_with fail
          go_ret
          simp only [World.drewN_drewN]
          exact ⟨rfl, belowDN _ _⟩
        · have k3 : 9223372036854775807 ≤ d := by omega
          go_wp2_with fail
          refine (mul_any b 4294967296 hb1 hb2 (by decide) (by decide) _).mono ?_
          rintro e w1 ⟨rfl, rfl⟩
          rw [E1.out]
          go_wp2_with fail
          refine (div_any b 4294967296 hb1 hb2 (by decide) (by decide) _).mono ?_
          rintro e w1 ⟨rfl, n0, rfl⟩
          rw [E2.out]
          go_wp2_with fail
          refine (add_any b 0 hb1 hb2 (by decide) (by decide) _).mono ?_
          rintro e w1 ⟨rfl, rfl⟩
          rw [E3.out]
          go_wp2_with fail
          refine (mul_any b 0 hb1 hb2 (by decide) (by decide) _).mono ?_
          rintro e w1 ⟨rfl, rfl⟩
          rw [E4.out]
          go_wp2_with fail
          refine (awake_any _).mono ?_
          rintro e w1 ⟨rfl, n99, rfl⟩
          go_wp2_with fail
          go_ret
          simp only [World.drewN_drewN]
          exact ⟨rfl, belowDN _ _⟩
      · have k3 : d ≤ -9223372036854775808 := by omega
        go_wp2_with fail
        refine (mul_any b 4294967296 hb1 hb2 (by decide) (by decide) _).mono ?_
        rintro e w1 ⟨rfl, rfl⟩
        rw [E1.out]
        go_wp2_with fail
        refine (div_any b 4294967296 hb1 hb2 (by decide) (by decide) _).mono ?_
        rintro e w1 ⟨rfl, n0, rfl⟩
        rw [E2.out]
        go_wp2_with fail
        refine (add_any b 0 hb1 hb2 (by decide) (by decide) _).mono ?_
        rintro e w1 ⟨rfl, rfl⟩
        rw [E3.out]
        go_wp2_with fail
        refine (mul_any b 0 hb1 hb2 (by decide) (by decide) _).mono ?_
        rintro e w1 ⟨rfl, rfl⟩
        rw [E4.out]
        go_wp2_with fail
        refine (awake_any _).mono ?_
        rintro e w1 ⟨rfl, n99, rfl⟩
        go_wp2_with fail
        go_ret
        simp only [World.drewN_drewN]
        exact ⟨rfl, belowDN _ _⟩
    · have g1 : decide (mulF a 0 < mulF b 0) = false := decide_eq_false (by have := mulF_mono (a := b) (b := a) (c := 0) (by omega) (by omega); omega)
      go_wp2_with fail
      refine (mul_any b 0 hb1 hb2 hc1 hc2 _).mono ?_
      rintro e w1 ⟨rfl, rfl⟩
      go_wp2_with fail
      refine (mul_any a 0 ha1 ha2 hc1 hc2 _).mono ?_
      rintro e w1 ⟨rfl, rfl⟩
      go_wp2_with fail
      refine (sub_any b 0 hb1 hb2 hc1 hc2 _).mono ?_
      rintro e w1 ⟨rfl, rfl⟩
      have hd := clamp_in (b - 0)
      obtain ⟨d, hdd⟩ : ∃ d, d = subF b 0 := ⟨_, rfl⟩
      have hd1 : -9223372036854775808 ≤ d := by rw [hdd]; exact hd.1
      have hd2 : d ≤ 9223372036854775807 := by rw [hdd]; exact hd.2
      have HD := Lib.hid hdd
      rw [← hdd]
      clear hd hdd
      by_cases k1 : -9223372036854775808 < d
      · by_cases k2 : d < 9223372036854775807
        · have hs : addF d 0 = b := by rw [HD.out]; exact sub_add hb1 hb2 (by rw [← HD.out]; exact k1) (by rw [← HD.out]; exact k2)
          have HS := Lib.hid hs
          clear hs
          go_wp2_with fail
          refine (add_any d 0 hd1 hd2 hc1 hc2 _).mono ?_
          rintro e w1 ⟨rfl, rfl⟩
          rw [HS.out]
          go_wp2_with fail
          refine (mul_any b 4294967296 hb1 hb2 (by decide) (by decide) _).mono ?_
          rintro e w1 ⟨rfl, rfl⟩
          rw [E1.out]
          go_wp2_with fail
          refine (div_any b 4294967296 hb1 hb2 (by decide) (by decide) _).mono ?_
          rintro e w1 ⟨rfl, n0, rfl⟩
          rw [E2.out]
          go_wp2_with fail
          refine (add_any b 0 hb1 hb2 (by decide) (by decide) _).mono ?_
          rintro e w1 ⟨rfl, rfl⟩
          rw [E3.out]
          go_wp2_with fail
          refine (mul_any b 0 hb1 hb2 (by decide) (by decide) _).mono ?_
          rintro e w1 ⟨rfl, rfl⟩
          rw [E4.out]
          go_wp2_with fail
          refine (awake_any _).mono ?_
          rintro e w1 ⟨rfl, n99, rfl⟩
          go_wp2_with fail
          go_ret
          simp only [World.drewN_drewN]
          exact ⟨rfl, belowDN _ _⟩
        · have k3 : 9223372036854775807 ≤ d := by omega
          go_wp2_with fail
          refine (mul_any b 4294967296 hb1 hb2 (by decide) (by decide) _).mono ?_
          rintro e w1 ⟨rfl, rfl⟩
          rw [E1.out]
          go_wp2_with fail
          refine (div_any b 4294967296 hb1 hb2 (by decide) (by decide) _).mono ?_
          rintro e w1 ⟨rfl, n0, rfl⟩
          rw [E2.out]
          go_wp2_with fail
          refine (add_any b 0 hb1 hb2 (by decide) (by decide) _).mono ?_
          rintro e w1 ⟨rfl, rfl⟩
          rw [E3.out]
          go_wp2_with fail
          refine (mul_any b 0 hb1 hb2 (by decide) (by decide) _).mono ?_
          rintro e w1 ⟨rfl, rfl⟩
          rw [E4.out]
          go_wp2_with fail
          refine (awake_any _).mono ?_
          rintro e w1 ⟨rfl, n99, rfl⟩
          go_wp2_with fail
          go_ret
          simp only [World.drewN_drewN]
          exact ⟨rfl, belowDN _ _⟩
      · have k3 : d ≤ -9223372036854775808 := by omega
        go_wp2_with fail
        refine (mul_any b 4294967296 hb1 hb2 (by decide) (by decide) _).mono ?_
        rintro e w1 ⟨rfl, rfl⟩
        rw [E1.out]
        go_wp2_with fail
        refine (div_any b 4294967296 hb1 hb2 (by decide) (by decide) _).mono ?_
        rintro e w1 ⟨rfl, n0, rfl⟩
        rw [E2.out]
        go_wp2_with fail
        refine (add_any b 0 hb1 hb2 (by decide) (by decide) _).mono ?_
        rintro e w1 ⟨rfl, rfl⟩
        rw [E3.out]
        go_wp2_with fail
        refine (mul_any b 0 hb1 hb2 (by decide) (by decide) _).mono ?_
        rintro e w1 ⟨rfl, rfl⟩
        rw [E4.out]
        go_wp2_with fail
        refine (awake_any _).mono ?_
        rintro e w1 ⟨rfl, n99, rfl⟩
        go_wp2_with fail
        go_ret
        simp only [World.drewN_drewN]
        exact ⟨rfl, belowDN _ _⟩
    · have g0 : 0 ≤ c := by omega
      have g1 : decide (mulF a c < mulF b c) = false := decide_eq_false (by have := mulF_mono (a := b) (b := a) (by omega) g0; omega)
      have g2 : decide (divF a c < divF b c) = false := decide_eq_false (by have := divF_mono (a := b) (b := a) (by omega) k; omega)
      go_wp2_with fail
      refine (mul_any b c hb1 hb2 hc1 hc2 _).mono ?_
      rintro e w1 ⟨rfl, rfl⟩
      go_wp2_with fail
      refine (mul_any a c ha1 ha2 hc1 hc2 _).mono ?_
      rintro e w1 ⟨rfl, rfl⟩
      go_wp2_with fail
      refine (div_any b c hb1 hb2 hc1 hc2 _).mono ?_
      rintro e w1 ⟨rfl, n0, rfl⟩
      go_wp2_with fail
      refine (div_any a c ha1 ha2 hc1 hc2 _).mono ?_
      rintro e w1 ⟨rfl, n0, rfl⟩
      go_wp2_with fail
      refine (sub_any b c hb1 hb2 hc1 hc2 _).mono ?_
      rintro e w1 ⟨rfl, rfl⟩
      have hd := clamp_in (b - c)
      obtain ⟨d, hdd⟩ : ∃ d, d = subF b c := ⟨_, rfl⟩
      have hd1 : -9223372036854775808 ≤ d := by rw [hdd]; exact hd.1
      have hd2 : d ≤ 9223372036854775807 := by rw [hdd]; exact hd.2
      have HD := Lib.hid hdd
      rw [← hdd]
      clear hd hdd
      by_cases k1 : -9223372036854775808 < d
      · by_cases k2 : d < 9223372036854775807
        · have hs : addF d c = b := by rw [HD.out]; exact sub_add hb1 hb2 (by rw [← HD.out]; exact k1) (by rw [← HD.out]; exact k2)
          have HS := Lib.hid hs
          clear hs
          go_wp2_with fail
          refine (add_any d c hd1 hd2 hc1 hc2 _).mono ?_
          rintro e w1 ⟨rfl, rfl⟩
          rw [HS.out]
          go_wp2_with fail
          refine (mul_any b 4294967296 hb1 hb2 (by decide) (by decide) _).mono ?_
          rintro e w1 ⟨rfl, rfl⟩
          rw [E1.out]
          go_wp2_with fail
          refine (div_any b 4294967296 hb1 hb2 (by decide) (by decide) _).mono ?_
          rintro e w1 ⟨rfl, n0, rfl⟩
          rw [E2.out]
          go_wp2_with fail
          refine (add_any b 0 hb1 hb2 (by decide) (by decide) _).mono ?_
          rintro e w1 ⟨rfl, rfl⟩
          rw [E3.out]
          go_wp2_with fail
          refine (mul_any b 0 hb1 hb2 (by decide) (by decide) _).mono ?_
          rintro e w1 ⟨rfl, rfl⟩
          rw [E4.out]
          go_wp2_with fail
          refine (awake_any _).mono ?_
          rintro e w1 ⟨rfl, n99, rfl⟩
          go_wp2_with fail
          go_ret
          simp only [World.drewN_drewN]
          exact ⟨rfl, belowDN _ _⟩
        · have k3 : 9223372036854775807 ≤ d := by omega
          go_wp2_with fail
          refine (mul_any b 4294967296 hb1 hb2 (by decide) (by decide) _).mono ?_
          rintro e w1 ⟨rfl, rfl⟩
          rw [E1.out]
          go_wp2_with fail
          refine (div_any b 4294967296 hb1 hb2 (by decide) (by decide) _).mono ?_
          rintro e w1 ⟨rfl, n0, rfl⟩
          rw [E2.out]
          go_wp2_with fail
          refine (add_any b 0 hb1 hb2 (by decide) (by decide) _).mono ?_
          rintro e w1 ⟨rfl, rfl⟩
          rw [E3.out]
          go_wp2_with fail
          refine (mul_any b 0 hb1 hb2 (by decide) (by decide) _).mono ?_
          rintro e w1 ⟨rfl, rfl⟩
          rw [E4.out]
          go_wp2_with fail
          refine (awake_any _).mono ?_
          rintro e w1 ⟨rfl, n99, rfl⟩
          go_wp2_with fail
          go_ret
          simp only [World.drewN_drewN]
          exact ⟨rfl, belowDN _ _⟩
      · have k3 : d ≤ -9223372036854775808 := by omega
        go_wp2_with fail
        refine (mul_any b 4294967296 hb1 hb2 (by decide) (by decide) _).mono ?_
        rintro e w1 ⟨rfl, rfl⟩
        rw [E1.out]
        go_wp2_with fail
        refine (div_any b 4294967296 hb1 hb2 (by decide) (by decide) _).mono ?_
        rintro e w1 ⟨rfl, n0, rfl⟩
        rw [E2.out]
        go_wp2_with fail
        refine (add_any b 0 hb1 hb2 (by decide) (by decide) _).mono ?_
        rintro e w1 ⟨rfl, rfl⟩
        rw [E3.out]
        go_wp2_with fail
        refine (mul_any b 0 hb1 hb2 (by decide) (by decide) _).mono ?_
        rintro e w1 ⟨rfl, rfl⟩
        rw [E4.out]
        go_wp2_with fail
        refine (awake_any _).mono ?_
        rintro e w1 ⟨rfl, n99, rfl⟩
        go_wp2_with fail
        go_ret
        simp only [World.drewN_drewN]
        exact ⟨rfl, belowDN _ _⟩
  · skip
    have E1 := Lib.hid (mulF_one ha1 ha2)
    have E2 := Lib.hid (divF_one ha1 ha2)
    have E3 := Lib.hid (addF_zero ha1 ha2)
    have E4 := Lib.hid (mulF_zero a)
    have f1 : (addF a b != addF b a) = false := by rw [addF_comm]; simp
    have f2 : (mulF a b != mulF b a) = false := by rw [mulF_comm]; simp
    have f3 : decide (addF b c < addF a c) = false := decide_eq_false (by have := addF_mono (a := a) (b := b) c (by omega); omega)
    have f4 : decide (subF c a < subF c b) = false := decide_eq_false (by have := subF_anti (a := a) (b := b) c (by omega); omega)
    have f5 : decide (negF a < negF b) = false := decide_eq_false (by have := negF_anti (a := a) (b := b) (by omega); omega)
    have f6 : decide (sqrtF b < sqrtF a) = false := decide_eq_false (by have := sqrtF_mono (a := a) (b := b) (by omega) (by omega); omega)
    have f7 : decide (floorF b < floorF a) = false := decide_eq_false (by have := floorF_mono (a := a) (b := b) (by omega); omega)
    go_enter Try.func7, Try.ntmps7
    go_wp2_with fail
    refine (add_any a b ha1 ha2 hb1 hb2 _).mono ?_
    rintro e w1 ⟨rfl, rfl⟩
    go_wp2_with fail
    refine (add_any b a hb1 hb2 ha1 ha2 _).mono ?_
    rintro e w1 ⟨rfl, rfl⟩
    go_wp2_with fail
    refine (mul_any a b ha1 ha2 hb1 hb2 _).mono ?_
    rintro e w1 ⟨rfl, rfl⟩
    go_wp2_with fail
    refine (mul_any b a hb1 hb2 ha1 ha2 _).mono ?_
    rintro e w1 ⟨rfl, rfl⟩
    go_wp2_with fail
    refine (add_any a c ha1 ha2 hc1 hc2 _).mono ?_
    rintro e w1 ⟨rfl, rfl⟩
    go_wp2_with fail
    refine (add_any b c hb1 hb2 hc1 hc2 _).mono ?_
    rintro e w1 ⟨rfl, rfl⟩
    go_wp2_with fail
    refine (sub_any c b hc1 hc2 hb1 hb2 _).mono ?_
    rintro e w1 ⟨rfl, rfl⟩
    go_wp2_with fail
    refine (sub_any c a hc1 hc2 ha1 ha2 _).mono ?_
    rintro e w1 ⟨rfl, rfl⟩
    go_wp2_with fail
    refine (neg_any b hb1 hb2 _).mono ?_
    rintro e w1 ⟨rfl, rfl⟩
    go_wp2_with fail
    refine (neg_any a ha1 ha2 _).mono ?_
    rintro e w1 ⟨rfl, rfl⟩
    go_wp2_with fail
    refine (sqrt_any a ha1 ha2 _).mono ?_
    rintro e w1 ⟨rfl, rfl⟩
    go_wp2_with fail
    refine (sqrt_any b hb1 hb2 _).mono ?_
    rintro e w1 ⟨rfl, rfl⟩
    go_wp2_with fail
    refine (floor_any a ha1 ha2 _).mono ?_
    rintro e w1 ⟨rfl, rfl⟩
    go_wp2_with fail
    refine (floor_any b hb1 hb2 _).mono ?_
    rintro e w1 ⟨rfl, rfl⟩
    rcases (show c < 0 ∨ c = 0 ∨ 0 < c by omega) with k | rfl | k
    · have g0 : ¬ 0 ≤ c := by omega
      have g1 : decide (mulF a c < mulF b c) = false := decide_eq_false (by have := mulF_anti (a := a) (b := b) (by omega) k; omega)
      have g2 : decide (divF a c < divF b c) = false := decide_eq_false (by have := divF_anti (a := a) (b := b) (by omega) k; omega)
      go_wp2_with fail
      refine (mul_any a c ha1 ha2 hc1 hc2 _).mono ?_
      rintro e w1 ⟨rfl, rfl⟩
      go_wp2_with fail
      refine (mul_any b c hb1 hb2 hc1 hc2 _).mono ?_
      rintro e w1 ⟨rfl, rfl⟩
      go_wp2_with fail
      refine (div_any a c ha1 ha2 hc1 hc2 _).mono ?_
      rintro e w1 ⟨rfl, n0, rfl⟩
      go_wp2_with fail
      refine (div_any b c hb1 hb2 hc1 hc2 _).mono ?_
      rintro e w1 ⟨rfl, n0, rfl⟩
      go_wp2_with fail
      refine (sub_any a c ha1 ha2 hc1 hc2 _).mono ?_
      rintro e w1 ⟨rfl, rfl⟩
      have hd := clamp_in (a - c)
      obtain ⟨d, hdd⟩ : ∃ d, d = subF a c := ⟨_, rfl⟩
      have hd1 : -9223372036854775808 ≤ d := by rw [hdd]; exact hd.1
      have hd2 : d ≤ 9223372036854775807 := by rw [hdd]; exact hd.2
      have HD := Lib.hid hdd
      rw [← hdd]
      clear hd hdd
      by_cases k1 : -9223372036854775808 < d
      · by_cases k2 : d < 9223372036854775807
        · have hs : addF d c = a := by rw [HD.out]; exact sub_add ha1 ha2 (by rw [← HD.out]; exact k1) (by rw [← HD.out]; exact k2)
          have HS := Lib.hid hs
          clear hs
          go_wp2_with fail
          refine (add_any d c hd1 hd2 hc1 hc2 _).mono ?_
          rintro e w1 ⟨rfl, rfl⟩
          rw [HS.out]
          go_wp2_with fail
          refine (mul_any a 4294967296 ha1 ha2 (by decide) (by decide) _).mono ?_
          rintro e w1 ⟨rfl, rfl⟩
          rw [E1.out]
          go_wp2_with fail
          refine (div_any a 4294967296 ha1 ha2 (by decide) (by decide) _).mono ?_
          rintro e w1 ⟨rfl, n0, rfl⟩
          rw [E2.out]
          go_wp2_with fail
          refine (add_any a 0 ha1 ha2 (by decide) (by decide) _).mono ?_
          rintro e w1 ⟨rfl, rfl⟩
          rw [E3.out]
          go_wp2_with fail
          refine (mul_any a 0 ha1 ha2 (by decide) (by decide) _).mono ?_
          rintro e w1 ⟨rfl, rfl⟩
          rw [E4.out]
          go_wp2_with fail
          refine (awake_any _).mono ?_
          rintro e w1 ⟨rfl, n99, rfl⟩
          go_wp2_with fail
          go_ret
          simp only [World.drewN_drewN]
          exact ⟨rfl, belowDN _ _⟩
        · have k3 : 9223372036854775807 ≤ d := by omega
          go_wp2_with fail
          refine (mul_any a 4294967296 ha1 ha2 (by decide) (by decide) _).mono ?_
          rintro e w1 ⟨rfl, rfl⟩
          rw [E1.out]
          go_wp2_with fail
          refine (div_any a 4294967296 ha1 ha2 (by decide) (by decide) _).mono ?_
          rintro e w1 ⟨rfl, n0, rfl⟩
          rw [E2.out]
          go_wp2_with fail
          refine (add_any a 0 ha1 ha2 (by decide) (by decide) _).mono ?_
          rintro e w1 ⟨rfl, rfl⟩
          rw [E3.out]
          go_wp2_with fail
          refine (mul_any a 0 ha1 ha2 (by decide) (by decide) _).mono ?_
          rintro e w1 ⟨rfl, rfl⟩
          rw [E4.out]
          go_wp2_with fail
          refine (awake_any _).mono ?_
          rintro e w1 ⟨rfl, n99, rfl⟩
          go_wp2_with fail
          go_ret
          simp only [World.drewN_drewN]
          exact ⟨rfl, belowDN _ _⟩
      · have k3 : d ≤ -9223372036854775808 := by omega
        go_wp2_with fail
        refine (mul_any a 4294967296 ha1 ha2 (by decide) (by decide) _).mono ?_
        rintro e w1 ⟨rfl, rfl⟩
        rw [E1.out]
        go_wp2_with fail
        refine (div_any a 4294967296 ha1 ha2 (by decide) (by decide) _).mono ?_
        rintro e w1 ⟨rfl, n0, rfl⟩
        rw [E2.out]
        go_wp2_with fail
        refine (add_any a 0 ha1 ha2 (by decide) (by decide) _).mono ?_
        rintro e w1 ⟨rfl, rfl⟩
        rw [E3.out]
        go_wp2_with fail
        refine (mul_any a 0 ha1 ha2 (by decide) (by decide) _).mono ?_
        rintro e w1 ⟨rfl, rfl⟩
        rw [E4.out]
        go_wp2_with fail
        refine (awake_any _).mono ?_
        rintro e w1 ⟨rfl, n99, rfl⟩
        go_wp2_with fail
        go_ret
        simp only [World.drewN_drewN]
        exact ⟨rfl, belowDN _ _⟩
    · have g1 : decide (mulF b 0 < mulF a 0) = false := decide_eq_false (by have := mulF_mono (a := a) (b := b) (c := 0) (by omega) (by omega); omega)
      go_wp2_with fail
      refine (mul_any a 0 ha1 ha2 hc1 hc2 _).mono ?_
      rintro e w1 ⟨rfl, rfl⟩
      go_wp2_with fail
      refine (mul_any b 0 hb1 hb2 hc1 hc2 _).mono ?_
      rintro e w1 ⟨rfl, rfl⟩
      go_wp2_with fail
      refine (sub_any a 0 ha1 ha2 hc1 hc2 _).mono ?_
      rintro e w1 ⟨rfl, rfl⟩
      have hd := clamp_in (a - 0)
      obtain ⟨d, hdd⟩ : ∃ d, d = subF a 0 := ⟨_, rfl⟩
      have hd1 : -9223372036854775808 ≤ d := by rw [hdd]; exact hd.1
      have hd2 : d ≤ 9223372036854775807 := by rw [hdd]; exact hd.2
      have HD := Lib.hid hdd
      rw [← hdd]
      clear hd hdd
      by_cases k1 : -9223372036854775808 < d
      · by_cases k2 : d < 9223372036854775807
        · have hs : addF d 0 = a := by rw [HD.out]; exact sub_add ha1 ha2 (by rw [← HD.out]; exact k1) (by rw [← HD.out]; exact k2)
          have HS := Lib.hid hs
          clear hs
          go_wp2_with fail
          refine (add_any d 0 hd1 hd2 hc1 hc2 _).mono ?_
          rintro e w1 ⟨rfl, rfl⟩
          rw [HS.out]
          go_wp2_with fail
          refine (mul_any a 4294967296 ha1 ha2 (by decide) (by decide) _).mono ?_
          rintro e w1 ⟨rfl, rfl⟩
          rw [E1.out]
          go_wp2_with fail
          refine (div_any a 4294967296 ha1 ha2 (by decide) (by decide) _).mono ?_
          rintro e w1 ⟨rfl, n0, rfl⟩
          rw [E2.out]
          go_wp2_with fail
          refine (add_any a 0 ha1 ha2 (by decide) (by decide) _).mono ?_
          rintro e w1 ⟨rfl, rfl⟩
          rw [E3.out]
          go_wp2_with fail
          refine (mul_any a 0 ha1 ha2 (by decide) (by decide) _).mono ?_
          rintro e w1 ⟨rfl, rfl⟩
          rw [E4.out]
          go_wp2_with fail
          refine (awake_any _).mono ?_
          rintro e w1 ⟨rfl, n99, rfl⟩
          go_wp2_with fail
          go_ret
          simp only [World.drewN_drewN]
          exact ⟨rfl, belowDN _ _⟩
        · have k3 : 9223372036854775807 ≤ d := by omega
          go_wp2_with fail
          refine (mul_any a 4294967296 ha1 ha2 (by decide) (by decide) _).mono ?_
          rintro e w1 ⟨rfl, rfl⟩
          rw [E1.out]
          go_wp2_with fail
          refine (div_any a 4294967296 ha1 ha2 (by decide) (by decide) _).mono ?_
          rintro e w1 ⟨rfl, n0, rfl⟩
          rw [E2.out]
          go_wp2_with fail
          refine (add_any a 0 ha1 ha2 (by decide) (by decide) _).mono ?_
          rintro e w1 ⟨rfl, rfl⟩
          rw [E3.out]
          go_wp2_with fail
          refine (mul_any a 0 ha1 ha2 (by decide) (by decide) _).mono ?_
          rintro e w1 ⟨rfl, rfl⟩
          rw [E4.out]
          go_wp2_with fail
          refine (awake_any _).mono ?_
          rintro e w1 ⟨rfl, n99, rfl⟩
          go_wp2_with fail
          go_ret
          simp only [World.drewN_drewN]
          exact ⟨rfl, belowDN _ _⟩
      · have k3 : d ≤ -9223372036854775808 := by omega
        go_wp2_with fail
        refine (mul_any a 4294967296 ha1 ha2 (by decide) (by decide) _).mono ?_
        rintro e w1 ⟨rfl, rfl⟩
        rw [E1.out]
        go_wp2_with fail
        refine (div_any a 4294967296 ha1 ha2 (by decide) (by decide) _).mono ?_
        rintro e w1 ⟨rfl, n0, rfl⟩
        rw [E2.out]
        go_wp2_with fail
        refine (add_any a 0 ha1 ha2 (by decide) (by decide) _).mono ?_
        rintro e w1 ⟨rfl, rfl⟩
        rw [E3.out]
        go_wp2_with fail
        refine (mul_any a 0 ha1 ha2 (by decide) (by decide) _).mono ?_
        rintro e w1 ⟨rfl, rfl⟩
        rw [E4.out]
        go_wp2_with fail
        refine (awake_any _).mono ?_
        rintro e w1 ⟨rfl, n99, rfl⟩
        go_wp2_with fail
        go_ret
        simp only [World.drewN_drewN]
        exact ⟨rfl, belowDN _ _⟩
    · have g0 : 0 ≤ c := by omega
      have g1 : decide (mulF b c < mulF a c) = false := decide_eq_false (by have := mulF_mono (a := a) (b := b) (by omega) g0; omega)
      have g2 : decide (divF b c < divF a c) = false := decide_eq_false (by have := divF_mono (a := a) (b := b) (by omega) k; omega)
      go_wp2_with fail
      refine (mul_any a c ha1 ha2 hc1 hc2 _).mono ?_
      rintro e w1 ⟨rfl, rfl⟩
      go_wp2_with fail
      refine (mul_any b c hb1 hb2 hc1 hc2 _).mono ?_
      rintro e w1 ⟨rfl, rfl⟩
      go_wp2_with fail
      refine (div_any a c ha1 ha2 hc1 hc2 _).mono ?_
      rintro e w1 ⟨rfl, n0, rfl⟩
      go_wp2_with fail
      refine (div_any b c hb1 hb2 hc1 hc2 _).mono ?_
      rintro e w1 ⟨rfl, n0, rfl⟩
      go_wp2_with fail
      refine (sub_any a c ha1 ha2 hc1 hc2 _).mono ?_
      rintro e w1 ⟨rfl, rfl⟩
      have hd := clamp_in (a - c)
      obtain ⟨d, hdd⟩ : ∃ d, d = subF a c := ⟨_, rfl⟩
      have hd1 : -9223372036854775808 ≤ d := by rw [hdd]; exact hd.1
      have hd2 : d ≤ 9223372036854775807 := by rw [hdd]; exact hd.2
      have HD := Lib.hid hdd
      rw [← hdd]
      clear hd hdd
      by_cases k1 : -9223372036854775808 < d
      · by_cases k2 : d < 9223372036854775807
        · have hs : addF d c = a := by rw [HD.out]; exact sub_add ha1 ha2 (by rw [← HD.out]; exact k1) (by rw [← HD.out]; exact k2)
          have HS := Lib.hid hs
          clear hs
          go_wp2_with fail
          refine (add_any d c hd1 hd2 hc1 hc2 _).mono ?_
          rintro e w1 ⟨rfl, rfl⟩
          rw [HS.out]
          go_wp2_with fail
          refine (mul_any a 4294967296 ha1 ha2 (by decide) (by decide) _).mono ?_
          rintro e w1 ⟨rfl, rfl⟩
          rw [E1.out]
          go_wp2_with fail
          refine (div_any a 4294967296 ha1 ha2 (by decide) (by decide) _).mono ?_
          rintro e w1 ⟨rfl, n0, rfl⟩
          rw [E2.out]
          go_wp2_with fail
          refine (add_any a 0 ha1 ha2 (by decide) (by decide) _).mono ?_
          rintro e w1 ⟨rfl, rfl⟩
          rw [E3.out]
          go_wp2_with fail
          refine (mul_any a 0 ha1 ha2 (by decide) (by decide) _).mono ?_
          rintro e w1 ⟨rfl, rfl⟩
          rw [E4.out]
          go_wp2_with fail
          refine (awake_any _).mono ?_
          rintro e w1 ⟨rfl, n99, rfl⟩
          go_wp2_with fail
          go_ret
          simp only [World.drewN_drewN]
          exact ⟨rfl, belowDN _ _⟩
        · have k3 : 9223372036854775807 ≤ d := by omega
          go_wp2_with fail
          refine (mul_any a 4294967296 ha1 ha2 (by decide) (by decide) _).mono ?_
          rintro e w1 ⟨rfl, rfl⟩
          rw [E1.out]
          go_wp2_with fail
          refine (div_any a 4294967296 ha1 ha2 (by decide) (by decide) _).mono ?_
          rintro e w1 ⟨rfl, n0, rfl⟩
          rw [E2.out]
          go_wp2_with fail
          refine (add_any a 0 ha1 ha2 (by decide) (by decide) _).mono ?_
          rintro e w1 ⟨rfl, rfl⟩
          rw [E3.out]
          go_wp2_with fail
          refine (mul_any a 0 ha1 ha2 (by decide) (by decide) _).mono ?_
          rintro e w1 ⟨rfl, rfl⟩
          rw [E4.out]
          go_wp2_with fail
          refine (awake_any _).mono ?_
          rintro e w1 ⟨rfl, n99, rfl⟩
          go_wp2_with fail
          go_ret
          simp only [World.drewN_drewN]
          exact ⟨rfl, belowDN _ _⟩
      · have k3 : d ≤ -9223372036854775808 := by omega
        go_wp2_with fail
        refine (mul_any a 4294967296 ha1 ha2 (by decide) (by decide) _).mono ?_
        rintro e w1 ⟨rfl, rfl⟩
        rw [E1.out]
        go_wp2_with fail
        refine (div_any a 4294967296 ha1 ha2 (by decide) (by decide) _).mono ?_
        rintro e w1 ⟨rfl, n0, rfl⟩
        rw [E2.out]
        go_wp2_with fail
        refine (add_any a 0 ha1 ha2 (by decide) (by decide) _).mono ?_
        rintro e w1 ⟨rfl, rfl⟩
        rw [E3.out]
        go_wp2_with fail
        refine (mul_any a 0 ha1 ha2 (by decide) (by decide) _).mono ?_
        rintro e w1 ⟨rfl, rfl⟩
        rw [E4.out]
        go_wp2_with fail
        refine (awake_any _).mono ?_
        rintro e w1 ⟨rfl, n99, rfl⟩
        go_wp2_with fail
        go_ret
        simp only [World.drewN_drewN]
        exact ⟨rfl, belowDN _ _⟩

end Go.Proofs.Ytgoplbfeocimaaa.FixX
