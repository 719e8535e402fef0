/- The walks of layer 1: sines, both sides; the reference's products and whole numbers. -/
import Derived.Test.YtgiohbmllelhlaaFixT
set_option linter.unusedVariables false
set_option linter.unusedSimpArgs false
namespace Go.Proofs.Ytgiohbmllelhlaa.FixS
open Go.RowKit FixM Base Num FixW FixV FixU FixT

theorem tmod_cases (a T : Int) (hT : 0 < T) : (a.tmod T = a % T ∧ 0 ≤ a.tmod T) ∨ (a.tmod T < 0 ∧ a.tmod T + T = a % T) := by
  by_cases hneg : a.tmod T < 0
  · refine .inr ⟨hneg, ?_⟩
    have hm := Int.emod_nonneg a (show T ≠ 0 by omega)
    rw [Int.tmod_eq_emod] at hneg ⊢
    split at hneg
    · omega
    · rename_i h; rw [if_neg h]; omega
  · refine .inl ⟨?_, by omega⟩
    have hm := Int.emod_lt_of_pos a hT
    rw [Int.tmod_eq_emod] at hneg ⊢
    split
    · simp
    · rename_i h; rw [if_neg h] at hneg; omega
theorem rmul_args (X hi lo : Nat) (h1 : hi = X / 18446744073709551616) (h2 : lo = X % 18446744073709551616) :
    (hi : Int) / 4294967296 = ((X / 4294967296 / 18446744073709551616 : Nat) : Int) ∧
    IntKind.u64.wrap (IntKind.u64.wrap ((hi : Int) * 4294967296) + (lo : Int) / 4294967296) = ((X / 4294967296 % 18446744073709551616 : Nat) : Int) ∧
    (bits BinOp.and .u64 (lo : Int) 4294967295 != 0) = decide (X % 4294967296 ≠ 0) := by
  refine ⟨by omega, ?_, ?_⟩
  · rw [IntKind.wrap_u64, IntKind.wrap_u64]; omega
  · rw [maskN lo (by omega), Bool.eq_iff_iff, bne_iff_ne, decide_eq_true_iff]; omega
set_option maxHeartbeats 1000000 in
theorem rmul_any (a b : Int) (ha1 : -9223372036854775808 ≤ a) (ha2 : a ≤ 9223372036854775807) (hb1 : -9223372036854775808 ≤ b) (hb2 : b ≤ 9223372036854775807) (w : World) : Calls Try.prog 43 #[.int .i64 a, .int .i64 b] w fun e w' => e = .returned (.int .i64 (mulF a b)) ∧ w = w' := by
  have ht := mulF_told a b
  have m1 := product_any a.natAbs b.natAbs (by omega) (by omega) w
  obtain ⟨X, hX⟩ : ∃ X, X = a.natAbs * b.natAbs := ⟨_, rfl⟩
  have hXb : X ≤ 9223372036854775808 * 9223372036854775808 := by rw [hX]; exact Nat.mul_le_mul (by omega) (by omega)
  rw [← hX] at ht m1
  obtain ⟨hi, hhi⟩ : ∃ hi, hi = X / 18446744073709551616 := ⟨_, rfl⟩
  obtain ⟨lo, hlo⟩ : ∃ lo, lo = X % 18446744073709551616 := ⟨_, rfl⟩
  rw [← hhi, ← hlo] at m1
  have T := Lib.hid ht
  have M1 := Lib.hid m1
  have HX := Lib.hid (And.intro hhi (And.intro hlo hXb))
  have HS := Lib.hid (show (!(decide (a < 0) == decide (b < 0))) = !(sameB a b) from rfl)
  have blo : lo < 18446744073709551616 := by omega
  clear ht m1 hX hhi hlo hXb
  go_enter Try.func43, Try.ntmps43
  go_wp2_with fail
  refine (rsize_any a ha1 ha2 _).mono ?_
  rintro e w1 ⟨rfl, rfl⟩
  go_wp2_with fail
  refine (rsize_any b hb1 hb2 _).mono ?_
  rintro e w1 ⟨rfl, rfl⟩
  go_wp2_with fail
  refine M1.out.mono ?_
  rintro e w1 ⟨rfl, rfl⟩
  go_wp2_with fail
  obtain ⟨eA, eB, eC⟩ := rmul_args X hi lo HX.out.1 HX.out.2.1
  rw [eA, eB, eC, HS.out]
  clear eA eB eC
  refine (in_any _ _ (!(sameB a b)) _ (by have := HX.out.2.2; omega) (Nat.mod_lt _ (by decide)) _).mono ?_
  rintro e w1 ⟨rfl, rfl⟩
  rw [Bool.not_not, T.out]
  go_wp2_with fail
  go_ret
  exact ⟨rfl, rfl⟩
theorem of_told (n : Int) (b : Bool) (hb : b = decide (n < 0)) : told (!b) (n.natAbs * 4294967296 / 18446744073709551616) (n.natAbs * 4294967296 % 18446744073709551616) false = ofF n := by
  rw [told_clamp, hb]
  unfold ofF
  congr 1
  by_cases h : n < 0
  · rw [decide_eq_true h]; simp; omega
  · rw [decide_eq_false h]; simp; omega
end Go.Proofs.Ytgiohbmllelhlaa.FixS
