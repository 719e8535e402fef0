/- The walks of package fix and of its reference: products, whole numbers. -/
import Derived.Test.YtnfbeldiideonaaFixV
set_option linter.unusedVariables false
set_option linter.unusedSimpArgs false
namespace Go.Proofs.Ytnfbeldiideonaa.FixU
open Go.RowKit FixM Base Num FixW FixV

set_option maxHeartbeats 1000000 in
theorem of_any (n : Int) (h1 : -9223372036854775808 ≤ n) (h2 : n ≤ 9223372036854775807) (w : World) : Calls Try.prog 16 #[.int .i64 n] w fun e w' => e = .returned (.int .i64 (ofF n)) ∧ w = w' := by
  by_cases c1 : 2147483647 < n
  · have HV := Lib.hid (show ofF n = 9223372036854775807 from clamp_top (by omega))
    go_enter Try.func16, Try.ntmps16
    go_wp2_with fail
    go_ret
    exact ⟨ret_int HV.out.symm, rfl⟩
  · by_cases c2 : n < -2147483648
    · have HV := Lib.hid (show ofF n = -9223372036854775808 from clamp_bot (by omega))
      go_enter Try.func16, Try.ntmps16
      go_wp2_with fail
      go_ret
      exact ⟨ret_int HV.out.symm, rfl⟩
    · have HV := Lib.hid (show ofF n = n * 4294967296 from clamp_id (by omega) (by omega))
      go_enter Try.func16, Try.ntmps16
      go_wp2_with fail
      go_ret
      refine ⟨ret_int ?_, rfl⟩
      rw [HV.out]
      (try simp only [IntKind.wrap_i64]); (try omega)
set_option maxHeartbeats 1000000 in
theorem floor_any (x : Int) (h1 : -9223372036854775808 ≤ x) (h2 : x ≤ 9223372036854775807) (w : World) : Calls Try.prog 21 #[.int .i64 x] w fun e w' => e = .returned (.int .i64 (floorF x)) ∧ w = w' := by
  go_enter Try.func21, Try.ntmps21
  go_wp2_with fail
  go_ret
  refine ⟨ret_int ?_, rfl⟩
  unfold floorF
  (try simp only [IntKind.wrap_i64]); (try omega)
theorem u64_or_nat (a b : Nat) (ha : a < 18446744073709551616) (hb : b < 18446744073709551616) : bits .or .u64 (a : Int) (b : Int) = ((a ||| b : Nat) : Int) :=
  (bits_nat .u64 64 (by decide) (fun n h0 h1 => by rw [IntKind.wrap_u64]; omega) a b (by omega) (by omega)).2
theorem or_halves (hi lo : Nat) (hl : lo < 18446744073709551616) : bits .or .u64 (IntKind.u64.wrap ((hi : Int) * 4294967296)) ((lo : Int) / 4294967296) = ((hi % 4294967296 * 4294967296 + lo / 4294967296 : Nat) : Int) := by
  have e1 : IntKind.u64.wrap ((hi : Int) * 4294967296) = ((hi % 4294967296 * 4294967296 : Nat) : Int) := by rw [IntKind.wrap_u64]; omega
  have e2 : (lo : Int) / 4294967296 = ((lo / 4294967296 : Nat) : Int) := by omega
  rw [e1, e2, u64_or_nat _ _ (by omega) (by omega)]
  have := or_disjoint (hi % 4294967296) (lo / 4294967296) 32 (by show _ < 4294967296; omega)
  rw [show (2 : Nat) ^ 32 = 4294967296 from rfl] at this
  rw [this]
theorem mul_args (X hi lo : Nat) (h1 : hi = X / 18446744073709551616) (h2 : lo = X % 18446744073709551616) :
    (hi : Int) / 4294967296 = ((X / 4294967296 / 18446744073709551616 : Nat) : Int) ∧
    bits .or .u64 (IntKind.u64.wrap ((hi : Int) * 4294967296)) ((lo : Int) / 4294967296) = ((X / 4294967296 % 18446744073709551616 : Nat) : Int) ∧
    (IntKind.u64.wrap ((lo : Int) * 4294967296) != 0) = decide (X % 4294967296 ≠ 0) := by
  refine ⟨by omega, ?_, ?_⟩
  · rw [or_halves hi lo (by omega)]; omega
  · rw [IntKind.wrap_u64, Bool.eq_iff_iff, bne_iff_ne, decide_eq_true_iff]; omega
set_option maxHeartbeats 1000000 in
theorem mul_any (a b : Int) (ha1 : -9223372036854775808 ≤ a) (ha2 : a ≤ 9223372036854775807) (hb1 : -9223372036854775808 ≤ b) (hb2 : b ≤ 9223372036854775807) (w : World) : Calls Try.prog 23 #[.int .i64 a, .int .i64 b] w fun e w' => e = .returned (.int .i64 (mulF a b)) ∧ w = w' := by
  have ht := mulF_told a b
  have m1 := mul64_any a.natAbs b.natAbs (by omega) (by omega) w
  obtain ⟨X, hX⟩ : ∃ X, X = a.natAbs * b.natAbs := ⟨_, rfl⟩
  rw [← hX] at ht m1
  obtain ⟨hi, hhi⟩ : ∃ hi, hi = X / 18446744073709551616 := ⟨_, rfl⟩
  obtain ⟨lo, hlo⟩ : ∃ lo, lo = X % 18446744073709551616 := ⟨_, rfl⟩
  rw [← hhi, ← hlo] at m1
  have bhi : hi < 18446744073709551616 := by
    have : a.natAbs * b.natAbs ≤ 9223372036854775808 * 9223372036854775808 := Nat.mul_le_mul (by omega) (by omega)
    omega
  have blo : lo < 18446744073709551616 := by omega
  have T := Lib.hid ht
  have M1 := Lib.hid m1
  have HX := Lib.hid (And.intro hhi hlo)
  clear ht m1 hX hhi hlo
  cases hs : sameB a b
  all_goals
    have HS := Lib.hid hs
    clear hs
    go_enter Try.func23, Try.ntmps23
    go_wp2_with fail
    refine (signs_any a b _).mono ?_
    rintro e w1 ⟨rfl, rfl⟩
    rw [HS.out]
    unfold toldV
    simp only [if_true, if_false, Bool.false_eq_true]
    go_wp2_with fail
    refine (size_any a ha1 ha2 _).mono ?_
    rintro e w1 ⟨rfl, rfl⟩
    go_wp2_with fail
    refine (size_any b hb1 hb2 _).mono ?_
    rintro e w1 ⟨rfl, rfl⟩
    go_wp2_with fail
    refine M1.out.mono ?_
    rintro e w1 ⟨rfl, rfl⟩
    go_wp2_with fail
    obtain ⟨eA, eB, eC⟩ := mul_args X hi lo HX.out.1 HX.out.2
    rw [eA, eB, eC]
    clear eA eB eC
    (first | (with_reducible refine (told1_any _ _ _ (Nat.mod_lt _ (by decide)) _).mono ?_) | (with_reducible refine (told2_any _ _ _ (Nat.mod_lt _ (by decide)) _).mono ?_))
    rintro e w1 ⟨rfl, rfl⟩
    have HT := T.out
    rw [HS.out] at HT
    rw [HT]
    clear HT
    go_wp2_with fail
    go_ret
    exact ⟨rfl, rfl⟩
end Go.Proofs.Ytnfbeldiideonaa.FixU
