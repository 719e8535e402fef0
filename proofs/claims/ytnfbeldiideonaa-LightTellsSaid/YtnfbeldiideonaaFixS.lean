/- The walks of layer 1: sines, both sides; the reference's products and whole numbers. -/
import Derived.Test.YtnfbeldiideonaaFixT
set_option linter.unusedVariables false
set_option linter.unusedSimpArgs false
namespace Go.Proofs.Ytnfbeldiideonaa.FixS
open Go.RowKit FixM Base Num FixW FixV FixU FixT

theorem tmod_cases (a T : Int) (hT : 0 < T) : (a.tmod T = a % T ∧ 0 ≤ a.tmod T) ∨ (a.tmod T < 0 ∧ a.tmod T + T = a % T) := by
  by_cases hneg : a.tmod T < 0
  · refine .inr ⟨hneg, ?_⟩
    have hm := Int.emod_nonneg a (show T ≠ 0 by omega)
    rw [Int.tmod_eq_emod] at hneg ⊢
    split at hneg
    · omega
    · rename_i h; rw [if_neg h]; omega
  · refine .inl ⟨?_, by omega⟩
    have hm := Int.emod_lt_of_pos a hT
    rw [Int.tmod_eq_emod] at hneg ⊢
    split
    · simp
    · rename_i h; rw [if_neg h] at hneg; omega
theorem rmul_args (X hi lo : Nat) (h1 : hi = X / 18446744073709551616) (h2 : lo = X % 18446744073709551616) :
    (hi : Int) / 4294967296 = ((X / 4294967296 / 18446744073709551616 : Nat) : Int) ∧
    IntKind.u64.wrap (IntKind.u64.wrap ((hi : Int) * 4294967296) + (lo : Int) / 4294967296) = ((X / 4294967296 % 18446744073709551616 : Nat) : Int) ∧
    (bits BinOp.and .u64 (lo : Int) 4294967295 != 0) = decide (X % 4294967296 ≠ 0) := by
  refine ⟨by omega, ?_, ?_⟩
  · rw [IntKind.wrap_u64, IntKind.wrap_u64]; omega
  · rw [maskN lo (by omega), Bool.eq_iff_iff, bne_iff_ne, decide_eq_true_iff]; omega
set_option maxHeartbeats 1000000 in
theorem rmul_any (a b : Int) (ha1 : -9223372036854775808 ≤ a) (ha2 : a ≤ 9223372036854775807) (hb1 : -9223372036854775808 ≤ b) (hb2 : b ≤ 9223372036854775807) (w : World) : Calls Try.prog 37 #[.int .i64 a, .int .i64 b] w fun e w' => e = .returned (.int .i64 (mulF a b)) ∧ w = w' := by
  have ht := mulF_told a b
  have m1 := product_any a.natAbs b.natAbs (by omega) (by omega) w
  obtain ⟨X, hX⟩ : ∃ X, X = a.natAbs * b.natAbs := ⟨_, rfl⟩
  have hXb : X ≤ 9223372036854775808 * 9223372036854775808 := by rw [hX]; exact Nat.mul_le_mul (by omega) (by omega)
  rw [← hX] at ht m1
  obtain ⟨hi, hhi⟩ : ∃ hi, hi = X / 18446744073709551616 := ⟨_, rfl⟩
  obtain ⟨lo, hlo⟩ : ∃ lo, lo = X % 18446744073709551616 := ⟨_, rfl⟩
  rw [← hhi, ← hlo] at m1
  have T := Lib.hid ht
  have M1 := Lib.hid m1
  have HX := Lib.hid (And.intro hhi (And.intro hlo hXb))
  have HS := Lib.hid (show (!(decide (a < 0) == decide (b < 0))) = !(sameB a b) from rfl)
  have blo : lo < 18446744073709551616 := by omega
  clear ht m1 hX hhi hlo hXb
  go_enter Try.func37, Try.ntmps37
  go_wp2_with fail
  refine (rsize_any a ha1 ha2 _).mono ?_
  rintro e w1 ⟨rfl, rfl⟩
  go_wp2_with fail
  refine (rsize_any b hb1 hb2 _).mono ?_
  rintro e w1 ⟨rfl, rfl⟩
  go_wp2_with fail
  refine M1.out.mono ?_
  rintro e w1 ⟨rfl, rfl⟩
  go_wp2_with fail
  obtain ⟨eA, eB, eC⟩ := rmul_args X hi lo HX.out.1 HX.out.2.1
  rw [eA, eB, eC, HS.out]
  clear eA eB eC
  refine (in_any _ _ (!(sameB a b)) _ (by have := HX.out.2.2; omega) (Nat.mod_lt _ (by decide)) _).mono ?_
  rintro e w1 ⟨rfl, rfl⟩
  rw [Bool.not_not, T.out]
  go_wp2_with fail
  go_ret
  exact ⟨rfl, rfl⟩
theorem of_told (n : Int) (b : Bool) (hb : b = decide (n < 0)) : told (!b) (n.natAbs * 4294967296 / 18446744073709551616) (n.natAbs * 4294967296 % 18446744073709551616) false = ofF n := by
  rw [told_clamp, hb]
  unfold ofF
  congr 1
  by_cases h : n < 0
  · rw [decide_eq_true h]; simp; omega
  · rw [decide_eq_false h]; simp; omega
set_option maxHeartbeats 1000000 in
theorem rof_any (n : Int) (h1 : -9223372036854775808 ≤ n) (h2 : n ≤ 9223372036854775807) (w : World) : Calls Try.prog 31 #[.int .i64 n] w fun e w' => e = .returned (.int .i64 (ofF n)) ∧ w = w' := by
  have ht := of_told n _ rfl
  have m1 := product_any n.natAbs 4294967296 (by omega) (by omega) w
  have hXb : n.natAbs * 4294967296 ≤ 9223372036854775808 * 4294967296 := by omega
  obtain ⟨X, hX⟩ : ∃ X, X = n.natAbs * 4294967296 := ⟨_, rfl⟩
  rw [← hX] at ht m1 hXb
  obtain ⟨hi, hhi⟩ : ∃ hi, hi = X / 18446744073709551616 := ⟨_, rfl⟩
  obtain ⟨lo, hlo⟩ : ∃ lo, lo = X % 18446744073709551616 := ⟨_, rfl⟩
  rw [← hhi, ← hlo] at m1 ht
  have i1 := in_any hi lo (decide (n < 0)) false (by omega) (by omega) w
  rw [ht] at i1
  have I1 := Lib.hid i1
  have M1 := Lib.hid m1
  clear ht m1 hX hhi hlo hXb i1
  go_enter Try.func31, Try.ntmps31
  go_wp2_with fail
  refine (rsize_any n h1 h2 _).mono ?_
  rintro e w1 ⟨rfl, rfl⟩
  go_wp2_with fail
  refine M1.out.mono ?_
  rintro e w1 ⟨rfl, rfl⟩
  go_wp2_with fail
  refine I1.out.mono ?_
  rintro e w1 ⟨rfl, rfl⟩
  go_wp2_with fail
  go_ret
  exact ⟨rfl, rfl⟩
set_option maxHeartbeats 1000000 in
theorem rfloor_any (x : Int) (h1 : -9223372036854775808 ≤ x) (h2 : x ≤ 9223372036854775807) (w : World) : Calls Try.prog 50 #[.int .i64 x] w fun e w' => e = .returned (.int .i64 (floorF x)) ∧ w = w' := by
  by_cases h : x.tmod 4294967296 < 0
  · have e := Int.mul_tdiv_add_tmod x 4294967296
    have l := Int.lt_tmod_of_pos x (show (0 : Int) < 4294967296 by decide)
    have HV := Lib.hid (show floorF x = x.tdiv 4294967296 - 1 by unfold floorF; omega)
    have b1 : -9223372036854775808 ≤ x.tdiv 4294967296 - 1 := by omega
    have b2 : x.tdiv 4294967296 ≤ 9223372036854775807 := by omega
    clear e l
    go_enter Try.func50, Try.ntmps50
    go_wp2_with fail
    go_ret
    exact ⟨ret_int (by rw [HV.out]), rfl⟩
  · have e := Int.mul_tdiv_add_tmod x 4294967296
    have l := Int.tmod_lt_of_pos x (show (0 : Int) < 4294967296 by decide)
    have HV := Lib.hid (show floorF x = x.tdiv 4294967296 by unfold floorF; omega)
    clear e l
    go_enter Try.func50, Try.ntmps50
    go_wp2_with fail
    go_ret
    exact ⟨ret_int (by rw [HV.out]), rfl⟩
set_option maxHeartbeats 1000000 in
theorem down_any (a n : Int) (h1 : 0 ≤ a) (h2 : a ≤ 9223372036854775807) (h3 : 1 ≤ n) (h4 : n ≤ 9223372036854775807) (w : World) : Calls Try.prog 67 #[.int .i64 a, .int .i64 n] w fun e w' => e = .returned (.int .i64 (a / n)) ∧ w = w' := by
  have m0 := Int.emod_nonneg a (show n ≠ 0 by omega)
  have m1 := Int.emod_lt_of_pos a (show 0 < n by omega)
  have m2 : a % n ≤ a := by have e := Int.mul_ediv_add_emod a n; have := Int.mul_nonneg (show 0 ≤ n by omega) (Int.ediv_nonneg h1 (show 0 ≤ n by omega)); omega
  have HV := Lib.hid (show (a - a % n) / n = a / n by
    have e := Int.mul_ediv_add_emod a n
    rw [show a - a % n = n * (a / n) by omega, Int.mul_ediv_cancel_left _ (by omega)])
  go_enter Try.func67, Try.ntmps67
  go_wp2_with fail
  go_ret
  exact ⟨ret_int (by rw [HV.out]), rfl⟩

set_option maxRecDepth 100000 in
set_option maxHeartbeats 8000000 in
theorem sin_any (a : Int) (h1 : -9223372036854775808 ≤ a) (h2 : a ≤ 9223372036854775807) (w : World) : Calls Try.prog 44 #[.int .i64 a] w fun e w' => e = .returned (.int .i64 (sinF a)) ∧ w = w' := by
  obtain ⟨f2, hf2⟩ : ∃ f, f = fold2 a := ⟨_, rfl⟩
  have b2 := fold2_in a
  rw [← hf2] at b2
  obtain ⟨q1, q2⟩ := b2
  have bq := sinQ_in q1 q2
  have b0 := sin0_in q1 q2
  have b1 := sin1_in q1 q2
  have b3 := sin2_in q1 q2
  have b4 := sin3_in q1 q2
  have p0 := mulF_small bq.1 bq.2 b0.1 b0.2
  have p1 := mulF_small bq.1 bq.2 b1.1 b1.2
  have p2 := mulF_small bq.1 bq.2 b3.1 b3.2
  have HV : sinF a = cut1 (sin4 f2) := by unfold sinF; rw [hf2]
  have c1 := mul_any f2 f2 (by omega) (by omega) (by omega) (by omega) w
  have c2 := mul_any (sinQ f2) (sin0 f2) (by omega) (by omega) (by omega) (by omega) w
  have c3 := mul_any (sinQ f2) (sin1 f2) (by omega) (by omega) (by omega) (by omega) w
  have c4 := mul_any (sinQ f2) (sin2 f2) (by omega) (by omega) (by omega) (by omega) w
  have c5 := mul_any f2 (sin3 f2) (by omega) (by omega) (by omega) (by omega) w
  have d0 : sin0 f2 = 4294967296 - sinQ f2 / 72 := rfl
  have d1 : sin1 f2 = 4294967296 - mulF (sinQ f2) (sin0 f2) / 42 := rfl
  have d2 : sin2 f2 = 4294967296 - mulF (sinQ f2) (sin1 f2) / 20 := rfl
  have d3 : sin3 f2 = 4294967296 - mulF (sinQ f2) (sin2 f2) / 6 := rfl
  have d4 : sin4 f2 = mulF f2 (sin3 f2) := rfl
  have dq : mulF f2 f2 = sinQ f2 := rfl
  rw [dq] at c1
  have b5 : -9223372036854775808 ≤ sin4 f2 ∧ sin4 f2 ≤ 9223372036854775807 := clamp_in _
  rw [← d4] at c5
  generalize mulF (sinQ f2) (sin0 f2) = P0 at *
  generalize mulF (sinQ f2) (sin1 f2) = P1 at *
  generalize mulF (sinQ f2) (sin2 f2) = P2 at *
  rw [d0] at c2
  rw [d1] at c3
  rw [d2] at c4
  rw [d3] at c5
  generalize sinQ f2 = q at *
  generalize sin4 f2 = x at *
  have C1 := Lib.hid c1
  have C2 := Lib.hid c2
  have C3 := Lib.hid c3
  have C4 := Lib.hid c4
  have C5 := Lib.hid c5
  have V := Lib.hid HV
  obtain ⟨bq1, bq2⟩ := bq
  obtain ⟨p01, p02⟩ := p0
  obtain ⟨p11, p12⟩ := p1
  obtain ⟨p21, p22⟩ := p2
  obtain ⟨b51, b52⟩ := b5
  clear c1 c2 c3 c4 c5 HV d0 d1 d2 d3 d4 dq b0 b1 b3 b4
  -- the ways to within a quarter of a turn
  have hm0 := Int.emod_nonneg a (show (26986075409 : Int) ≠ 0 by decide)
  have hm1 := Int.emod_lt_of_pos a (show (0 : Int) < 26986075409 by decide)
  have htl := Int.lt_tmod_of_pos a (show (0 : Int) < 26986075409 by decide)
  have htm := Int.tmod_lt_of_pos a (show (0 : Int) < 26986075409 by decide)
  have hte := tmod_cases a 26986075409 (by decide)
  unfold fold2 fold1 at hf2
  generalize a % 26986075409 = m at *
  obtain ⟨r0, hr0⟩ : ∃ r, a.tmod 26986075409 = r := ⟨_, rfl⟩
  rw [hr0] at hte htl htm
  -- one script for every way
  rcases hte with ⟨hte, hpos⟩ | ⟨hneg, hsum⟩
  · obtain rfl : m = r0 := hte.symm
    by_cases k1 : 13493037704 < m
    · rw [if_pos k1] at hf2
      obtain ⟨f1, hf1⟩ : ∃ f, m - 26986075409 = f := ⟨_, rfl⟩
      rw [hf1] at hf2
      have k2 : ¬ 6746518852 < f1 := by omega
      rw [if_neg k2] at hf2
      by_cases k3 : f1 < -6746518852
      · rw [if_pos k3] at hf2
        have hf2' := hf2.symm
        clear hf2
        go_enter Try.func44, Try.ntmps44
        go_wp2_with fail
        refine C1.out.mono ?_
        rintro e w1 ⟨rfl, rfl⟩
        go_wp2_with fail
        refine C2.out.mono ?_
        rintro e w1 ⟨rfl, rfl⟩
        go_wp2_with fail
        refine C3.out.mono ?_
        rintro e w1 ⟨rfl, rfl⟩
        go_wp2_with fail
        refine C4.out.mono ?_
        rintro e w1 ⟨rfl, rfl⟩
        go_wp2_with fail
        refine C5.out.mono ?_
        rintro e w1 ⟨rfl, rfl⟩
        by_cases x1 : x < -4294967296
        · have XE : cut1 x = -4294967296 := by unfold cut1; rw [if_pos x1]
          go_wp2_with fail
          go_ret
          exact ⟨ret_int (by rw [V.out, XE]), rfl⟩
        · by_cases x2 : 4294967296 < x
          · have XE : cut1 x = 4294967296 := by unfold cut1; rw [if_neg x1, if_pos x2]
            go_wp2_with fail
            go_ret
            exact ⟨ret_int (by rw [V.out, XE]), rfl⟩
          · have XE : cut1 x = x := by unfold cut1; rw [if_neg x1, if_neg x2]
            go_wp2_with fail
            go_ret
            exact ⟨ret_int (by rw [V.out, XE]), rfl⟩

      · rw [if_neg k3] at hf2
        subst hf2
        go_enter Try.func44, Try.ntmps44
        go_wp2_with fail
        refine C1.out.mono ?_
        rintro e w1 ⟨rfl, rfl⟩
        go_wp2_with fail
        refine C2.out.mono ?_
        rintro e w1 ⟨rfl, rfl⟩
        go_wp2_with fail
        refine C3.out.mono ?_
        rintro e w1 ⟨rfl, rfl⟩
        go_wp2_with fail
        refine C4.out.mono ?_
        rintro e w1 ⟨rfl, rfl⟩
        go_wp2_with fail
        refine C5.out.mono ?_
        rintro e w1 ⟨rfl, rfl⟩
        by_cases x1 : x < -4294967296
        · have XE : cut1 x = -4294967296 := by unfold cut1; rw [if_pos x1]
          go_wp2_with fail
          go_ret
          exact ⟨ret_int (by rw [V.out, XE]), rfl⟩
        · by_cases x2 : 4294967296 < x
          · have XE : cut1 x = 4294967296 := by unfold cut1; rw [if_neg x1, if_pos x2]
            go_wp2_with fail
            go_ret
            exact ⟨ret_int (by rw [V.out, XE]), rfl⟩
          · have XE : cut1 x = x := by unfold cut1; rw [if_neg x1, if_neg x2]
            go_wp2_with fail
            go_ret
            exact ⟨ret_int (by rw [V.out, XE]), rfl⟩

    · rw [if_neg k1] at hf2
      have k3 : ¬ m < -6746518852 := by omega
      by_cases k2 : 6746518852 < m
      · rw [if_pos k2] at hf2
        have hf2' := hf2.symm
        clear hf2
        go_enter Try.func44, Try.ntmps44
        go_wp2_with fail
        refine C1.out.mono ?_
        rintro e w1 ⟨rfl, rfl⟩
        go_wp2_with fail
        refine C2.out.mono ?_
        rintro e w1 ⟨rfl, rfl⟩
        go_wp2_with fail
        refine C3.out.mono ?_
        rintro e w1 ⟨rfl, rfl⟩
        go_wp2_with fail
        refine C4.out.mono ?_
        rintro e w1 ⟨rfl, rfl⟩
        go_wp2_with fail
        refine C5.out.mono ?_
        rintro e w1 ⟨rfl, rfl⟩
        by_cases x1 : x < -4294967296
        · have XE : cut1 x = -4294967296 := by unfold cut1; rw [if_pos x1]
          go_wp2_with fail
          go_ret
          exact ⟨ret_int (by rw [V.out, XE]), rfl⟩
        · by_cases x2 : 4294967296 < x
          · have XE : cut1 x = 4294967296 := by unfold cut1; rw [if_neg x1, if_pos x2]
            go_wp2_with fail
            go_ret
            exact ⟨ret_int (by rw [V.out, XE]), rfl⟩
          · have XE : cut1 x = x := by unfold cut1; rw [if_neg x1, if_neg x2]
            go_wp2_with fail
            go_ret
            exact ⟨ret_int (by rw [V.out, XE]), rfl⟩

      · rw [if_neg k2, if_neg k3] at hf2
        subst hf2
        go_enter Try.func44, Try.ntmps44
        go_wp2_with fail
        refine C1.out.mono ?_
        rintro e w1 ⟨rfl, rfl⟩
        go_wp2_with fail
        refine C2.out.mono ?_
        rintro e w1 ⟨rfl, rfl⟩
        go_wp2_with fail
        refine C3.out.mono ?_
        rintro e w1 ⟨rfl, rfl⟩
        go_wp2_with fail
        refine C4.out.mono ?_
        rintro e w1 ⟨rfl, rfl⟩
        go_wp2_with fail
        refine C5.out.mono ?_
        rintro e w1 ⟨rfl, rfl⟩
        by_cases x1 : x < -4294967296
        · have XE : cut1 x = -4294967296 := by unfold cut1; rw [if_pos x1]
          go_wp2_with fail
          go_ret
          exact ⟨ret_int (by rw [V.out, XE]), rfl⟩
        · by_cases x2 : 4294967296 < x
          · have XE : cut1 x = 4294967296 := by unfold cut1; rw [if_neg x1, if_pos x2]
            go_wp2_with fail
            go_ret
            exact ⟨ret_int (by rw [V.out, XE]), rfl⟩
          · have XE : cut1 x = x := by unfold cut1; rw [if_neg x1, if_neg x2]
            go_wp2_with fail
            go_ret
            exact ⟨ret_int (by rw [V.out, XE]), rfl⟩

  · skip
    by_cases k1 : 13493037704 < m
    · rw [if_pos k1] at hf2
      obtain ⟨f1, hf1⟩ : ∃ f, m - 26986075409 = f := ⟨_, rfl⟩
      rw [hf1] at hf2
      have k2 : ¬ 6746518852 < f1 := by omega
      rw [if_neg k2] at hf2
      by_cases k3 : f1 < -6746518852
      · rw [if_pos k3] at hf2
        have hf2' := hf2.symm
        clear hf2
        go_enter Try.func44, Try.ntmps44
        go_wp2_with fail
        refine C1.out.mono ?_
        rintro e w1 ⟨rfl, rfl⟩
        go_wp2_with fail
        refine C2.out.mono ?_
        rintro e w1 ⟨rfl, rfl⟩
        go_wp2_with fail
        refine C3.out.mono ?_
        rintro e w1 ⟨rfl, rfl⟩
        go_wp2_with fail
        refine C4.out.mono ?_
        rintro e w1 ⟨rfl, rfl⟩
        go_wp2_with fail
        refine C5.out.mono ?_
        rintro e w1 ⟨rfl, rfl⟩
        by_cases x1 : x < -4294967296
        · have XE : cut1 x = -4294967296 := by unfold cut1; rw [if_pos x1]
          go_wp2_with fail
          go_ret
          exact ⟨ret_int (by rw [V.out, XE]), rfl⟩
        · by_cases x2 : 4294967296 < x
          · have XE : cut1 x = 4294967296 := by unfold cut1; rw [if_neg x1, if_pos x2]
            go_wp2_with fail
            go_ret
            exact ⟨ret_int (by rw [V.out, XE]), rfl⟩
          · have XE : cut1 x = x := by unfold cut1; rw [if_neg x1, if_neg x2]
            go_wp2_with fail
            go_ret
            exact ⟨ret_int (by rw [V.out, XE]), rfl⟩

      · rw [if_neg k3] at hf2
        subst hf2
        go_enter Try.func44, Try.ntmps44
        go_wp2_with fail
        refine C1.out.mono ?_
        rintro e w1 ⟨rfl, rfl⟩
        go_wp2_with fail
        refine C2.out.mono ?_
        rintro e w1 ⟨rfl, rfl⟩
        go_wp2_with fail
        refine C3.out.mono ?_
        rintro e w1 ⟨rfl, rfl⟩
        go_wp2_with fail
        refine C4.out.mono ?_
        rintro e w1 ⟨rfl, rfl⟩
        go_wp2_with fail
        refine C5.out.mono ?_
        rintro e w1 ⟨rfl, rfl⟩
        by_cases x1 : x < -4294967296
        · have XE : cut1 x = -4294967296 := by unfold cut1; rw [if_pos x1]
          go_wp2_with fail
          go_ret
          exact ⟨ret_int (by rw [V.out, XE]), rfl⟩
        · by_cases x2 : 4294967296 < x
          · have XE : cut1 x = 4294967296 := by unfold cut1; rw [if_neg x1, if_pos x2]
            go_wp2_with fail
            go_ret
            exact ⟨ret_int (by rw [V.out, XE]), rfl⟩
          · have XE : cut1 x = x := by unfold cut1; rw [if_neg x1, if_neg x2]
            go_wp2_with fail
            go_ret
            exact ⟨ret_int (by rw [V.out, XE]), rfl⟩

    · rw [if_neg k1] at hf2
      have k3 : ¬ m < -6746518852 := by omega
      by_cases k2 : 6746518852 < m
      · rw [if_pos k2] at hf2
        have hf2' := hf2.symm
        clear hf2
        go_enter Try.func44, Try.ntmps44
        go_wp2_with fail
        refine C1.out.mono ?_
        rintro e w1 ⟨rfl, rfl⟩
        go_wp2_with fail
        refine C2.out.mono ?_
        rintro e w1 ⟨rfl, rfl⟩
        go_wp2_with fail
        refine C3.out.mono ?_
        rintro e w1 ⟨rfl, rfl⟩
        go_wp2_with fail
        refine C4.out.mono ?_
        rintro e w1 ⟨rfl, rfl⟩
        go_wp2_with fail
        refine C5.out.mono ?_
        rintro e w1 ⟨rfl, rfl⟩
        by_cases x1 : x < -4294967296
        · have XE : cut1 x = -4294967296 := by unfold cut1; rw [if_pos x1]
          go_wp2_with fail
          go_ret
          exact ⟨ret_int (by rw [V.out, XE]), rfl⟩
        · by_cases x2 : 4294967296 < x
          · have XE : cut1 x = 4294967296 := by unfold cut1; rw [if_neg x1, if_pos x2]
            go_wp2_with fail
            go_ret
            exact ⟨ret_int (by rw [V.out, XE]), rfl⟩
          · have XE : cut1 x = x := by unfold cut1; rw [if_neg x1, if_neg x2]
            go_wp2_with fail
            go_ret
            exact ⟨ret_int (by rw [V.out, XE]), rfl⟩

      · rw [if_neg k2, if_neg k3] at hf2
        subst hf2
        go_enter Try.func44, Try.ntmps44
        go_wp2_with fail
        refine C1.out.mono ?_
        rintro e w1 ⟨rfl, rfl⟩
        go_wp2_with fail
        refine C2.out.mono ?_
        rintro e w1 ⟨rfl, rfl⟩
        go_wp2_with fail
        refine C3.out.mono ?_
        rintro e w1 ⟨rfl, rfl⟩
        go_wp2_with fail
        refine C4.out.mono ?_
        rintro e w1 ⟨rfl, rfl⟩
        go_wp2_with fail
        refine C5.out.mono ?_
        rintro e w1 ⟨rfl, rfl⟩
        by_cases x1 : x < -4294967296
        · have XE : cut1 x = -4294967296 := by unfold cut1; rw [if_pos x1]
          go_wp2_with fail
          go_ret
          exact ⟨ret_int (by rw [V.out, XE]), rfl⟩
        · by_cases x2 : 4294967296 < x
          · have XE : cut1 x = 4294967296 := by unfold cut1; rw [if_neg x1, if_pos x2]
            go_wp2_with fail
            go_ret
            exact ⟨ret_int (by rw [V.out, XE]), rfl⟩
          · have XE : cut1 x = x := by unfold cut1; rw [if_neg x1, if_neg x2]
            go_wp2_with fail
            go_ret
            exact ⟨ret_int (by rw [V.out, XE]), rfl⟩


set_option maxRecDepth 100000 in
set_option maxHeartbeats 8000000 in
theorem rsin_any (a : Int) (h1 : -9223372036854775808 ≤ a) (h2 : a ≤ 9223372036854775807) (w : World) : Calls Try.prog 48 #[.int .i64 a] w fun e w' => e = .returned (.int .i64 (sinF a)) ∧ w = w' := by
  obtain ⟨f2, hf2⟩ : ∃ f, f = fold2 a := ⟨_, rfl⟩
  have b2 := fold2_in a
  rw [← hf2] at b2
  obtain ⟨q1, q2⟩ := b2
  have bq := sinQ_in q1 q2
  have b0 := sin0_in q1 q2
  have b1 := sin1_in q1 q2
  have b3 := sin2_in q1 q2
  have b4 := sin3_in q1 q2
  have p0 := mulF_small bq.1 bq.2 b0.1 b0.2
  have p1 := mulF_small bq.1 bq.2 b1.1 b1.2
  have p2 := mulF_small bq.1 bq.2 b3.1 b3.2
  have HV : sinF a = cut1 (sin4 f2) := by unfold sinF; rw [hf2]
  have c1 := rmul_any f2 f2 (by omega) (by omega) (by omega) (by omega) w
  have c2 := rmul_any (sinQ f2) (sin0 f2) (by omega) (by omega) (by omega) (by omega) w
  have c3 := rmul_any (sinQ f2) (sin1 f2) (by omega) (by omega) (by omega) (by omega) w
  have c4 := rmul_any (sinQ f2) (sin2 f2) (by omega) (by omega) (by omega) (by omega) w
  have c5 := rmul_any f2 (sin3 f2) (by omega) (by omega) (by omega) (by omega) w
  have d0 : sin0 f2 = 4294967296 - sinQ f2 / 72 := rfl
  have d1 : sin1 f2 = 4294967296 - mulF (sinQ f2) (sin0 f2) / 42 := rfl
  have d2 : sin2 f2 = 4294967296 - mulF (sinQ f2) (sin1 f2) / 20 := rfl
  have d3 : sin3 f2 = 4294967296 - mulF (sinQ f2) (sin2 f2) / 6 := rfl
  have d4 : sin4 f2 = mulF f2 (sin3 f2) := rfl
  have dq : mulF f2 f2 = sinQ f2 := rfl
  rw [dq] at c1
  have b5 : -9223372036854775808 ≤ sin4 f2 ∧ sin4 f2 ≤ 9223372036854775807 := clamp_in _
  rw [← d4] at c5
  generalize mulF (sinQ f2) (sin0 f2) = P0 at *
  generalize mulF (sinQ f2) (sin1 f2) = P1 at *
  generalize mulF (sinQ f2) (sin2 f2) = P2 at *
  rw [d0] at c2
  rw [d1] at c3
  rw [d2] at c4
  rw [d3] at c5
  generalize sinQ f2 = q at *
  generalize sin4 f2 = x at *
  have C1 := Lib.hid c1
  have C2 := Lib.hid c2
  have C3 := Lib.hid c3
  have C4 := Lib.hid c4
  have C5 := Lib.hid c5
  have V := Lib.hid HV
  obtain ⟨bq1, bq2⟩ := bq
  obtain ⟨p01, p02⟩ := p0
  obtain ⟨p11, p12⟩ := p1
  obtain ⟨p21, p22⟩ := p2
  obtain ⟨b51, b52⟩ := b5
  clear c1 c2 c3 c4 c5 HV d0 d1 d2 d3 d4 dq b0 b1 b3 b4
  -- the ways to within a quarter of a turn
  have hm0 := Int.emod_nonneg a (show (26986075409 : Int) ≠ 0 by decide)
  have hm1 := Int.emod_lt_of_pos a (show (0 : Int) < 26986075409 by decide)
  have htl := Int.lt_tmod_of_pos a (show (0 : Int) < 26986075409 by decide)
  have htm := Int.tmod_lt_of_pos a (show (0 : Int) < 26986075409 by decide)
  have hte := tmod_cases a 26986075409 (by decide)
  unfold fold2 fold1 at hf2
  generalize a % 26986075409 = m at *
  obtain ⟨r0, hr0⟩ : ∃ r, a.tmod 26986075409 = r := ⟨_, rfl⟩
  rw [hr0] at hte htl htm
  -- one script for every way
  rcases hte with ⟨hte, hpos⟩ | ⟨hneg, hsum⟩
  · obtain rfl : m = r0 := hte.symm
    by_cases k1 : 13493037704 < m
    · rw [if_pos k1] at hf2
      obtain ⟨f1, hf1⟩ : ∃ f, m - 26986075409 = f := ⟨_, rfl⟩
      rw [hf1] at hf2
      have k2 : ¬ 6746518852 < f1 := by omega
      rw [if_neg k2] at hf2
      by_cases k3 : f1 < -6746518852
      · rw [if_pos k3] at hf2
        have hf2' := hf2.symm
        clear hf2
        go_enter Try.func48, Try.ntmps48
        go_wp2_with fail
        refine C1.out.mono ?_
        rintro e w1 ⟨rfl, rfl⟩
        go_wp2_with fail
        refine (down_any q 72 (by omega) (by omega) (by omega) (by omega) _).mono ?_
        rintro e w1 ⟨rfl, rfl⟩
        go_wp2_with fail
        refine C2.out.mono ?_
        rintro e w1 ⟨rfl, rfl⟩
        go_wp2_with fail
        refine (down_any P0 42 (by omega) (by omega) (by omega) (by omega) _).mono ?_
        rintro e w1 ⟨rfl, rfl⟩
        go_wp2_with fail
        refine C3.out.mono ?_
        rintro e w1 ⟨rfl, rfl⟩
        go_wp2_with fail
        refine (down_any P1 20 (by omega) (by omega) (by omega) (by omega) _).mono ?_
        rintro e w1 ⟨rfl, rfl⟩
        go_wp2_with fail
        refine C4.out.mono ?_
        rintro e w1 ⟨rfl, rfl⟩
        go_wp2_with fail
        refine (down_any P2 6 (by omega) (by omega) (by omega) (by omega) _).mono ?_
        rintro e w1 ⟨rfl, rfl⟩
        go_wp2_with fail
        refine C5.out.mono ?_
        rintro e w1 ⟨rfl, rfl⟩
        by_cases x1 : x < -4294967296
        · have XE : cut1 x = -4294967296 := by unfold cut1; rw [if_pos x1]
          go_wp2_with fail
          go_ret
          exact ⟨ret_int (by rw [V.out, XE]), rfl⟩
        · by_cases x2 : 4294967296 < x
          · have XE : cut1 x = 4294967296 := by unfold cut1; rw [if_neg x1, if_pos x2]
            go_wp2_with fail
            go_ret
            exact ⟨ret_int (by rw [V.out, XE]), rfl⟩
          · have XE : cut1 x = x := by unfold cut1; rw [if_neg x1, if_neg x2]
            go_wp2_with fail
            go_ret
            exact ⟨ret_int (by rw [V.out, XE]), rfl⟩

      · rw [if_neg k3] at hf2
        subst hf2
        go_enter Try.func48, Try.ntmps48
        go_wp2_with fail
        refine C1.out.mono ?_
        rintro e w1 ⟨rfl, rfl⟩
        go_wp2_with fail
        refine (down_any q 72 (by omega) (by omega) (by omega) (by omega) _).mono ?_
        rintro e w1 ⟨rfl, rfl⟩
        go_wp2_with fail
        refine C2.out.mono ?_
        rintro e w1 ⟨rfl, rfl⟩
        go_wp2_with fail
        refine (down_any P0 42 (by omega) (by omega) (by omega) (by omega) _).mono ?_
        rintro e w1 ⟨rfl, rfl⟩
        go_wp2_with fail
        refine C3.out.mono ?_
        rintro e w1 ⟨rfl, rfl⟩
        go_wp2_with fail
        refine (down_any P1 20 (by omega) (by omega) (by omega) (by omega) _).mono ?_
        rintro e w1 ⟨rfl, rfl⟩
        go_wp2_with fail
        refine C4.out.mono ?_
        rintro e w1 ⟨rfl, rfl⟩
        go_wp2_with fail
        refine (down_any P2 6 (by omega) (by omega) (by omega) (by omega) _).mono ?_
        rintro e w1 ⟨rfl, rfl⟩
        go_wp2_with fail
        refine C5.out.mono ?_
        rintro e w1 ⟨rfl, rfl⟩
        by_cases x1 : x < -4294967296
        · have XE : cut1 x = -4294967296 := by unfold cut1; rw [if_pos x1]
          go_wp2_with fail
          go_ret
          exact ⟨ret_int (by rw [V.out, XE]), rfl⟩
        · by_cases x2 : 4294967296 < x
          · have XE : cut1 x = 4294967296 := by unfold cut1; rw [if_neg x1, if_pos x2]
            go_wp2_with fail
            go_ret
            exact ⟨ret_int (by rw [V.out, XE]), rfl⟩
          · have XE : cut1 x = x := by unfold cut1; rw [if_neg x1, if_neg x2]
            go_wp2_with fail
            go_ret
            exact ⟨ret_int (by rw [V.out, XE]), rfl⟩

    · rw [if_neg k1] at hf2
      have k3 : ¬ m < -6746518852 := by omega
      by_cases k2 : 6746518852 < m
      · rw [if_pos k2] at hf2
        have hf2' := hf2.symm
        clear hf2
        go_enter Try.func48, Try.ntmps48
        go_wp2_with fail
        refine C1.out.mono ?_
        rintro e w1 ⟨rfl, rfl⟩
        go_wp2_with fail
        refine (down_any q 72 (by omega) (by omega) (by omega) (by omega) _).mono ?_
        rintro e w1 ⟨rfl, rfl⟩
        go_wp2_with fail
        refine C2.out.mono ?_
        rintro e w1 ⟨rfl, rfl⟩
        go_wp2_with fail
        refine (down_any P0 42 (by omega) (by omega) (by omega) (by omega) _).mono ?_
        rintro e w1 ⟨rfl, rfl⟩
        go_wp2_with fail
        refine C3.out.mono ?_
        rintro e w1 ⟨rfl, rfl⟩
        go_wp2_with fail
        refine (down_any P1 20 (by omega) (by omega) (by omega) (by omega) _).mono ?_
        rintro e w1 ⟨rfl, rfl⟩
        go_wp2_with fail
        refine C4.out.mono ?_
        rintro e w1 ⟨rfl, rfl⟩
        go_wp2_with fail
        refine (down_any P2 6 (by omega) (by omega) (by omega) (by omega) _).mono ?_
        rintro e w1 ⟨rfl, rfl⟩
        go_wp2_with fail
        refine C5.out.mono ?_
        rintro e w1 ⟨rfl, rfl⟩
        by_cases x1 : x < -4294967296
        · have XE : cut1 x = -4294967296 := by unfold cut1; rw [if_pos x1]
          go_wp2_with fail
          go_ret
          exact ⟨ret_int (by rw [V.out, XE]), rfl⟩
        · by_cases x2 : 4294967296 < x
          · have XE : cut1 x = 4294967296 := by unfold cut1; rw [if_neg x1, if_pos x2]
            go_wp2_with fail
            go_ret
            exact ⟨ret_int (by rw [V.out, XE]), rfl⟩
          · have XE : cut1 x = x := by unfold cut1; rw [if_neg x1, if_neg x2]
            go_wp2_with fail
            go_ret
            exact ⟨ret_int (by rw [V.out, XE]), rfl⟩

      · rw [if_neg k2, if_neg k3] at hf2
        subst hf2
        go_enter Try.func48, Try.ntmps48
        go_wp2_with fail
        refine C1.out.mono ?_
        rintro e w1 ⟨rfl, rfl⟩
        go_wp2_with fail
        refine (down_any q 72 (by omega) (by omega) (by omega) (by omega) _).mono ?_
        rintro e w1 ⟨rfl, rfl⟩
        go_wp2_with fail
        refine C2.out.mono ?_
        rintro e w1 ⟨rfl, rfl⟩
        go_wp2_with fail
        refine (down_any P0 42 (by omega) (by omega) (by omega) (by omega) _).mono ?_
        rintro e w1 ⟨rfl, rfl⟩
        go_wp2_with fail
        refine C3.out.mono ?_
        rintro e w1 ⟨rfl, rfl⟩
        go_wp2_with fail
        refine (down_any P1 20 (by omega) (by omega) (by omega) (by omega) _).mono ?_
        rintro e w1 ⟨rfl, rfl⟩
        go_wp2_with fail
        refine C4.out.mono ?_
        rintro e w1 ⟨rfl, rfl⟩
        go_wp2_with fail
        refine (down_any P2 6 (by omega) (by omega) (by omega) (by omega) _).mono ?_
        rintro e w1 ⟨rfl, rfl⟩
        go_wp2_with fail
        refine C5.out.mono ?_
        rintro e w1 ⟨rfl, rfl⟩
        by_cases x1 : x < -4294967296
        · have XE : cut1 x = -4294967296 := by unfold cut1; rw [if_pos x1]
          go_wp2_with fail
          go_ret
          exact ⟨ret_int (by rw [V.out, XE]), rfl⟩
        · by_cases x2 : 4294967296 < x
          · have XE : cut1 x = 4294967296 := by unfold cut1; rw [if_neg x1, if_pos x2]
            go_wp2_with fail
            go_ret
            exact ⟨ret_int (by rw [V.out, XE]), rfl⟩
          · have XE : cut1 x = x := by unfold cut1; rw [if_neg x1, if_neg x2]
            go_wp2_with fail
            go_ret
            exact ⟨ret_int (by rw [V.out, XE]), rfl⟩

  · skip
    by_cases k1 : 13493037704 < m
    · rw [if_pos k1] at hf2
      obtain ⟨f1, hf1⟩ : ∃ f, m - 26986075409 = f := ⟨_, rfl⟩
      rw [hf1] at hf2
      have k2 : ¬ 6746518852 < f1 := by omega
      rw [if_neg k2] at hf2
      by_cases k3 : f1 < -6746518852
      · rw [if_pos k3] at hf2
        have hf2' := hf2.symm
        clear hf2
        go_enter Try.func48, Try.ntmps48
        go_wp2_with fail
        refine C1.out.mono ?_
        rintro e w1 ⟨rfl, rfl⟩
        go_wp2_with fail
        refine (down_any q 72 (by omega) (by omega) (by omega) (by omega) _).mono ?_
        rintro e w1 ⟨rfl, rfl⟩
        go_wp2_with fail
        refine C2.out.mono ?_
        rintro e w1 ⟨rfl, rfl⟩
        go_wp2_with fail
        refine (down_any P0 42 (by omega) (by omega) (by omega) (by omega) _).mono ?_
        rintro e w1 ⟨rfl, rfl⟩
        go_wp2_with fail
        refine C3.out.mono ?_
        rintro e w1 ⟨rfl, rfl⟩
        go_wp2_with fail
        refine (down_any P1 20 (by omega) (by omega) (by omega) (by omega) _).mono ?_
        rintro e w1 ⟨rfl, rfl⟩
        go_wp2_with fail
        refine C4.out.mono ?_
        rintro e w1 ⟨rfl, rfl⟩
        go_wp2_with fail
        refine (down_any P2 6 (by omega) (by omega) (by omega) (by omega) _).mono ?_
        rintro e w1 ⟨rfl, rfl⟩
        go_wp2_with fail
        refine C5.out.mono ?_
        rintro e w1 ⟨rfl, rfl⟩
        by_cases x1 : x < -4294967296
        · have XE : cut1 x = -4294967296 := by unfold cut1; rw [if_pos x1]
          go_wp2_with fail
          go_ret
          exact ⟨ret_int (by rw [V.out, XE]), rfl⟩
        · by_cases x2 : 4294967296 < x
          · have XE : cut1 x = 4294967296 := by unfold cut1; rw [if_neg x1, if_pos x2]
            go_wp2_with fail
            go_ret
            exact ⟨ret_int (by rw [V.out, XE]), rfl⟩
          · have XE : cut1 x = x := by unfold cut1; rw [if_neg x1, if_neg x2]
            go_wp2_with fail
            go_ret
            exact ⟨ret_int (by rw [V.out, XE]), rfl⟩

      · rw [if_neg k3] at hf2
        subst hf2
        go_enter Try.func48, Try.ntmps48
        go_wp2_with fail
        refine C1.out.mono ?_
        rintro e w1 ⟨rfl, rfl⟩
        go_wp2_with fail
        refine (down_any q 72 (by omega) (by omega) (by omega) (by omega) _).mono ?_
        rintro e w1 ⟨rfl, rfl⟩
        go_wp2_with fail
        refine C2.out.mono ?_
        rintro e w1 ⟨rfl, rfl⟩
        go_wp2_with fail
        refine (down_any P0 42 (by omega) (by omega) (by omega) (by omega) _).mono ?_
        rintro e w1 ⟨rfl, rfl⟩
        go_wp2_with fail
        refine C3.out.mono ?_
        rintro e w1 ⟨rfl, rfl⟩
        go_wp2_with fail
        refine (down_any P1 20 (by omega) (by omega) (by omega) (by omega) _).mono ?_
        rintro e w1 ⟨rfl, rfl⟩
        go_wp2_with fail
        refine C4.out.mono ?_
        rintro e w1 ⟨rfl, rfl⟩
        go_wp2_with fail
        refine (down_any P2 6 (by omega) (by omega) (by omega) (by omega) _).mono ?_
        rintro e w1 ⟨rfl, rfl⟩
        go_wp2_with fail
        refine C5.out.mono ?_
        rintro e w1 ⟨rfl, rfl⟩
        by_cases x1 : x < -4294967296
        · have XE : cut1 x = -4294967296 := by unfold cut1; rw [if_pos x1]
          go_wp2_with fail
          go_ret
          exact ⟨ret_int (by rw [V.out, XE]), rfl⟩
        · by_cases x2 : 4294967296 < x
          · have XE : cut1 x = 4294967296 := by unfold cut1; rw [if_neg x1, if_pos x2]
            go_wp2_with fail
            go_ret
            exact ⟨ret_int (by rw [V.out, XE]), rfl⟩
          · have XE : cut1 x = x := by unfold cut1; rw [if_neg x1, if_neg x2]
            go_wp2_with fail
            go_ret
            exact ⟨ret_int (by rw [V.out, XE]), rfl⟩

    · rw [if_neg k1] at hf2
      have k3 : ¬ m < -6746518852 := by omega
      by_cases k2 : 6746518852 < m
      · rw [if_pos k2] at hf2
        have hf2' := hf2.symm
        clear hf2
        go_enter Try.func48, Try.ntmps48
        go_wp2_with fail
        refine C1.out.mono ?_
        rintro e w1 ⟨rfl, rfl⟩
        go_wp2_with fail
        refine (down_any q 72 (by omega) (by omega) (by omega) (by omega) _).mono ?_
        rintro e w1 ⟨rfl, rfl⟩
        go_wp2_with fail
        refine C2.out.mono ?_
        rintro e w1 ⟨rfl, rfl⟩
        go_wp2_with fail
        refine (down_any P0 42 (by omega) (by omega) (by omega) (by omega) _).mono ?_
        rintro e w1 ⟨rfl, rfl⟩
        go_wp2_with fail
        refine C3.out.mono ?_
        rintro e w1 ⟨rfl, rfl⟩
        go_wp2_with fail
        refine (down_any P1 20 (by omega) (by omega) (by omega) (by omega) _).mono ?_
        rintro e w1 ⟨rfl, rfl⟩
        go_wp2_with fail
        refine C4.out.mono ?_
        rintro e w1 ⟨rfl, rfl⟩
        go_wp2_with fail
        refine (down_any P2 6 (by omega) (by omega) (by omega) (by omega) _).mono ?_
        rintro e w1 ⟨rfl, rfl⟩
        go_wp2_with fail
        refine C5.out.mono ?_
        rintro e w1 ⟨rfl, rfl⟩
        by_cases x1 : x < -4294967296
        · have XE : cut1 x = -4294967296 := by unfold cut1; rw [if_pos x1]
          go_wp2_with fail
          go_ret
          exact ⟨ret_int (by rw [V.out, XE]), rfl⟩
        · by_cases x2 : 4294967296 < x
          · have XE : cut1 x = 4294967296 := by unfold cut1; rw [if_neg x1, if_pos x2]
            go_wp2_with fail
            go_ret
            exact ⟨ret_int (by rw [V.out, XE]), rfl⟩
          · have XE : cut1 x = x := by unfold cut1; rw [if_neg x1, if_neg x2]
            go_wp2_with fail
            go_ret
            exact ⟨ret_int (by rw [V.out, XE]), rfl⟩

      · rw [if_neg k2, if_neg k3] at hf2
        subst hf2
        go_enter Try.func48, Try.ntmps48
        go_wp2_with fail
        refine C1.out.mono ?_
        rintro e w1 ⟨rfl, rfl⟩
        go_wp2_with fail
        refine (down_any q 72 (by omega) (by omega) (by omega) (by omega) _).mono ?_
        rintro e w1 ⟨rfl, rfl⟩
        go_wp2_with fail
        refine C2.out.mono ?_
        rintro e w1 ⟨rfl, rfl⟩
        go_wp2_with fail
        refine (down_any P0 42 (by omega) (by omega) (by omega) (by omega) _).mono ?_
        rintro e w1 ⟨rfl, rfl⟩
        go_wp2_with fail
        refine C3.out.mono ?_
        rintro e w1 ⟨rfl, rfl⟩
        go_wp2_with fail
        refine (down_any P1 20 (by omega) (by omega) (by omega) (by omega) _).mono ?_
        rintro e w1 ⟨rfl, rfl⟩
        go_wp2_with fail
        refine C4.out.mono ?_
        rintro e w1 ⟨rfl, rfl⟩
        go_wp2_with fail
        refine (down_any P2 6 (by omega) (by omega) (by omega) (by omega) _).mono ?_
        rintro e w1 ⟨rfl, rfl⟩
        go_wp2_with fail
        refine C5.out.mono ?_
        rintro e w1 ⟨rfl, rfl⟩
        by_cases x1 : x < -4294967296
        · have XE : cut1 x = -4294967296 := by unfold cut1; rw [if_pos x1]
          go_wp2_with fail
          go_ret
          exact ⟨ret_int (by rw [V.out, XE]), rfl⟩
        · by_cases x2 : 4294967296 < x
          · have XE : cut1 x = 4294967296 := by unfold cut1; rw [if_neg x1, if_pos x2]
            go_wp2_with fail
            go_ret
            exact ⟨ret_int (by rw [V.out, XE]), rfl⟩
          · have XE : cut1 x = x := by unfold cut1; rw [if_neg x1, if_neg x2]
            go_wp2_with fail
            go_ret
            exact ⟨ret_int (by rw [V.out, XE]), rfl⟩


end Go.Proofs.Ytnfbeldiideonaa.FixS
