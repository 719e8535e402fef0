/- The law FixRounds. -/
import Derived.Test.YtgoplbfeocimaaaFixY
import Derived.Laws.Bits128
set_option linter.unusedVariables false
set_option linter.unusedSimpArgs false
namespace Go.Proofs.Ytgoplbfeocimaaa.FixR
open Go.RowKit FixM Base Num FixW FixV FixU FixT FixS FixO FixN FixK FixP FixY

theorem i32_in (n : Int) : -2147483648 ≤ IntKind.i32.wrap n ∧ IntKind.i32.wrap n ≤ 2147483647 := by rw [IntKind.wrap_i32]; omega
theorem i64_and43 (n : Int) (h1 : -9223372036854775808 ≤ n) (h2 : n ≤ 9223372036854775807) : bits .and .i64 n 8796093022207 = n % 8796093022208 := by
  have h127 : (BitVec.ofInt 64 8796093022207).toNat = 2 ^ 43 - 1 := by decide
  have key : (BitVec.ofInt 64 n &&& BitVec.ofInt 64 8796093022207).toNat = (n % ((2 ^ 64 : Nat) : Int)).toNat % 2 ^ 43 := by
    rw [BitVec.toNat_and, BitVec.toNat_ofInt, h127, Nat.and_two_pow_sub_one_eq_mod]
  show IntKind.i64.wrap ((BitVec.ofInt 64 n &&& BitVec.ofInt 64 8796093022207).toNat : Nat) = n % 8796093022208
  rw [key, IntKind.wrap_i64]
  omega
set_option maxRecDepth 100000 in
set_option maxHeartbeats 4000000 in
theorem rounds_any (a b n : Int) (ha1 : -9223372036854775808 ≤ a) (ha2 : a ≤ 9223372036854775807) (hb1 : -9223372036854775808 ≤ b) (hb2 : b ≤ 9223372036854775807) (hn1 : -9223372036854775808 ≤ n) (hn2 : n ≤ 9223372036854775807) (w : World) :
    Calls Try.prog 6 #[.int .i64 a, .int .i64 b, .int .i64 n] w fun e w' => e = .returned (.bool true) ∧ Below w.heap.size w w' := by
  obtain ⟨x, hx⟩ : ∃ x, a.tmod 17592186044416 = x := ⟨_, rfl⟩
  have hx1 : -17592186044416 ≤ x ∧ x ≤ 17592186044416 := by
    have h := tmod_cases a 17592186044416 (by decide)
    rw [hx] at h
    have h0 := Int.emod_nonneg a (show (17592186044416 : Int) ≠ 0 by decide)
    have h1 := Int.emod_lt_of_pos a (show (0 : Int) < 17592186044416 by decide)
    omega
  obtain ⟨z, hz⟩ : ∃ z, bits .and .i64 b 8796093022207 = z := ⟨_, rfl⟩
  have hz1 : 0 ≤ z ∧ z < 8796093022208 := by
    rw [← hz, i64_and43 b hb1 hb2]
    exact ⟨Int.emod_nonneg _ (by decide), Int.emod_lt_of_pos _ (by decide)⟩
  obtain ⟨q1, q2, q3, q4⟩ := div_mul (x := x) (y := 1048576 + z) (by omega) (by omega) (by omega) (by omega)
  have c1 := fun w => div_any x (1048576 + z) (by omega) (by omega) (by omega) (by omega) w
  obtain ⟨q, hq⟩ : ∃ q, q = divF x (1048576 + z) := ⟨_, rfl⟩
  rw [← hq] at q1 q2 q3 q4 c1
  have c2 := fun w => mul_any q (1048576 + z) (by omega) (by omega) (by omega) (by omega) w
  have c3 := fun w => mul_any (q + 1) (1048576 + z) (by omega) (by omega) (by omega) (by omega) w
  obtain ⟨r1, r2⟩ := sqrtF_in a ha2
  have c4 := fun w => sqrt_any a ha1 ha2 w
  have hr0 : ¬ 0 < a → sqrtF a = 0 := fun h => by unfold sqrtF; rw [if_pos (by omega)]
  have hr1 : 0 < a → mulF (sqrtF a) (sqrtF a) ≤ a ∧ a ≤ mulF (sqrtF a + 1) (sqrtF a + 1) := fun h => root_mul (by omega) ha2
  obtain ⟨r, hr⟩ : ∃ r, r = sqrtF a := ⟨_, rfl⟩
  rw [← hr] at r1 r2 hr0 hr1 c4
  have c5 := fun w => mul_any r r (by omega) (by omega) (by omega) (by omega) w
  have c6 := fun w => mul_any (r + 1) (r + 1) (by omega) (by omega) (by omega) (by omega) w
  obtain ⟨s1, s2⟩ := sinF_in a
  obtain ⟨t1, t2⟩ : -4294967296 ≤ cosF a ∧ cosF a ≤ 4294967296 := sinF_in _
  have c7 := fun w => sin_any a ha1 ha2 w
  have c8 := fun w => cos_any a ha1 ha2 w
  generalize sinF a = s at *
  generalize cosF a = t at *
  obtain ⟨m1, m2⟩ := i32_in n
  have hm := floor_of m1 m2
  obtain ⟨m, hmm⟩ : ∃ m, IntKind.i32.wrap n = m := ⟨_, rfl⟩
  rw [hmm] at m1 m2 hm
  have hof := clamp_in (m * 4294967296)
  have c9 := fun w => of_any m (by omega) (by omega) w
  have c10 := fun w => floor_any (ofF m) hof.1 hof.2 w
  rw [hm] at c10
  generalize ofF m = fm at *
  generalize mulF q (1048576 + z) = m1' at *
  generalize mulF (q + 1) (1048576 + z) = m2' at *
  generalize mulF r r = m3' at *
  generalize mulF (r + 1) (r + 1) = m4' at *
  have C1 := Lib.hid c1
  have C2 := Lib.hid c2
  have C3 := Lib.hid c3
  have C4 := Lib.hid c4
  have C5 := Lib.hid c5
  have C6 := Lib.hid c6
  have C7 := Lib.hid c7
  have C8 := Lib.hid c8
  have C9 := Lib.hid c9
  have C10 := Lib.hid c10
  clear c1 c2 c3 c4 c5 c6 c7 c8 c9 c10 hq hr hof hm
  go_enter Try.func6, Try.ntmps6
  go_wp2_with fail
  refine (C1.out _).mono ?_
  rintro e w1 ⟨rfl, n0, rfl⟩
  go_wp2_with fail
  refine (C2.out _).mono ?_
  rintro e w1 ⟨rfl, rfl⟩
  go_wp2_with fail
  refine (C3.out _).mono ?_
  rintro e w1 ⟨rfl, rfl⟩
  go_wp2_with fail
  refine (C4.out _).mono ?_
  rintro e w1 ⟨rfl, rfl⟩
  by_cases k : 0 < a
  · obtain ⟨g1, g2⟩ := hr1 k
    clear hr0 hr1
    go_wp2_with fail
    refine (C5.out _).mono ?_
    rintro e w1 ⟨rfl, rfl⟩
    go_wp2_with fail
    refine (C6.out _).mono ?_
    rintro e w1 ⟨rfl, rfl⟩
    go_wp2_with fail
    refine (C7.out _).mono ?_
    rintro e w1 ⟨rfl, rfl⟩
    go_wp2_with fail
    refine (C8.out _).mono ?_
    rintro e w1 ⟨rfl, rfl⟩
    go_wp2_with fail
    refine (C9.out _).mono ?_
    rintro e w1 ⟨rfl, rfl⟩
    go_wp2_with fail
    refine (C10.out _).mono ?_
    rintro e w1 ⟨rfl, rfl⟩
    go_wp2_with fail
    refine (awake_any _).mono ?_
    rintro e w1 ⟨rfl, n99, rfl⟩
    go_wp2_with fail
    go_ret
    simp only [World.drewN_drewN]
    exact ⟨rfl, belowDN _ _⟩
  · obtain rfl := hr0 (by omega)
    clear hr0 hr1
    go_wp2_with fail
    refine (C7.out _).mono ?_
    rintro e w1 ⟨rfl, rfl⟩
    go_wp2_with fail
    refine (C8.out _).mono ?_
    rintro e w1 ⟨rfl, rfl⟩
    go_wp2_with fail
    refine (C9.out _).mono ?_
    rintro e w1 ⟨rfl, rfl⟩
    go_wp2_with fail
    refine (C10.out _).mono ?_
    rintro e w1 ⟨rfl, rfl⟩
    go_wp2_with fail
    refine (awake_any _).mono ?_
    rintro e w1 ⟨rfl, n99, rfl⟩
    go_wp2_with fail
    go_ret
    simp only [World.drewN_drewN]
    exact ⟨rfl, belowDN _ _⟩
end Go.Proofs.Ytgoplbfeocimaaa.FixR
