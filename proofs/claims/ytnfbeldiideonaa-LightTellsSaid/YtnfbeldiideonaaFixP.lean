/- What layer 1's numbers answer: sums and products do not hang on order, what is greater stays greater, quotients and roots are right within one. Plain arithmetic: no program is named here. -/
import Derived.Test.YtnfbeldiideonaaFixM
set_option linter.unusedVariables false
set_option linter.unusedSimpArgs false
namespace Go.Proofs.Ytnfbeldiideonaa.FixP
open FixM

theorem addF_comm (a b : Int) : addF a b = addF b a := by unfold addF; rw [Int.add_comm]
theorem mulF_comm (a b : Int) : mulF a b = mulF b a := by unfold mulF; rw [Int.mul_comm]
theorem addF_mono {a b : Int} (c : Int) (h : a ≤ b) : addF a c ≤ addF b c := clamp_mono (by omega)
theorem subF_anti {a b : Int} (c : Int) (h : a ≤ b) : subF c b ≤ subF c a := clamp_mono (by omega)
theorem negF_anti {a b : Int} (h : a ≤ b) : negF b ≤ negF a := clamp_mono (by omega)
theorem floorF_mono {a b : Int} (h : a ≤ b) : floorF a ≤ floorF b := by unfold floorF; omega
theorem root_mono {n m : Nat} (h : n ≤ m) (hm : m < 79228162514264337593543950336) : root n ≤ root m := by
  have h1 := root_spec n (by omega)
  have h2 := root_spec m hm
  have : root n < root m + 1 := lt_of_sq (by omega)
  omega
theorem sqrtF_mono {a b : Int} (h : a ≤ b) (hb : b ≤ 9223372036854775807) : sqrtF a ≤ sqrtF b := by
  by_cases ha : a < 1
  · have e : sqrtF a = 0 := by unfold sqrtF; rw [if_pos ha]
    have := sqrtF_in b hb
    omega
  · have hb' : ¬ b < 1 := by omega
    unfold sqrtF
    rw [if_neg ha, if_neg hb']
    have := root_mono (n := a.toNat * 4294967296) (m := b.toNat * 4294967296) (by omega) (by omega)
    omega
theorem mulF_mono {a b c : Int} (h : a ≤ b) (hc : 0 ≤ c) : mulF a c ≤ mulF b c := by
  have := Int.mul_le_mul_of_nonneg_right h hc
  exact clamp_mono (by omega)
theorem mulF_anti {a b c : Int} (h : a ≤ b) (hc : c < 0) : mulF b c ≤ mulF a c := by
  have := Int.mul_le_mul_of_nonneg_right h (show (0 : Int) ≤ -c by omega)
  rw [Int.mul_neg, Int.mul_neg] at this
  exact clamp_mono (by omega)
theorem divF_mono {a b c : Int} (h : a ≤ b) (hc : 0 < c) : divF a c ≤ divF b c := by
  unfold divF
  rw [if_neg (by omega), if_pos hc, if_neg (by omega), if_pos hc]
  exact clamp_mono (Int.ediv_le_ediv hc (by omega))
theorem divF_anti {a b c : Int} (h : a ≤ b) (hc : c < 0) : divF b c ≤ divF a c := by
  unfold divF
  rw [if_neg (by omega), if_neg (by omega), if_neg (by omega), if_neg (by omega)]
  exact clamp_mono (Int.ediv_le_ediv (by omega) (by omega))
theorem sub_add {a c : Int} (h1 : -9223372036854775808 ≤ a) (h2 : a ≤ 9223372036854775807) (h3 : -9223372036854775808 < subF a c) (h4 : subF a c < 9223372036854775807) : addF (subF a c) c = a := by
  unfold subF at h3 h4 ⊢
  have e1 : -9223372036854775808 ≤ a - c := by
    rcases Int.lt_or_le (a - c) (-9223372036854775808) with h | h
    · have : clamp (a - c) = -9223372036854775808 := by unfold clamp; rw [if_pos h]
      omega
    · exact h
  have e2 : a - c ≤ 9223372036854775807 := by
    rcases Int.lt_or_le 9223372036854775807 (a - c) with h | h
    · have : clamp (a - c) = 9223372036854775807 := by unfold clamp; rw [if_neg (by omega), if_pos h]
      omega
    · exact h
  have : clamp (a - c) = a - c := clamp_id e1 e2
  rw [this]; unfold addF; rw [clamp_id (by omega) (by omega)]; omega
theorem mulF_one {a : Int} (h1 : -9223372036854775808 ≤ a) (h2 : a ≤ 9223372036854775807) : mulF a 4294967296 = a := by
  unfold mulF; rw [Int.mul_ediv_cancel _ (by decide), clamp_id h1 h2]
theorem divF_one {a : Int} (h1 : -9223372036854775808 ≤ a) (h2 : a ≤ 9223372036854775807) : divF a 4294967296 = a := by
  unfold divF; rw [if_neg (by decide), if_pos (by decide), Int.mul_ediv_cancel _ (by decide), clamp_id h1 h2]
theorem addF_zero {a : Int} (h1 : -9223372036854775808 ≤ a) (h2 : a ≤ 9223372036854775807) : addF a 0 = a := by
  unfold addF; rw [Int.add_zero, clamp_id h1 h2]
theorem mulF_zero (a : Int) : mulF a 0 = 0 := by unfold mulF; rw [Int.mul_zero]; rfl

/-- a quotient times what it was divided by -/
theorem div_mul {x y : Int} (hx1 : -17592186044416 ≤ x) (hx2 : x ≤ 17592186044416) (hy : 1048576 ≤ y) (hy2 : y ≤ 17592186044416) :
    -144115188075855872 ≤ divF x y ∧ divF x y ≤ 72057594037927936 ∧ mulF (divF x y) y ≤ x ∧ x ≤ mulF (divF x y + 1) y := by
  have e := Int.mul_ediv_add_emod (x * 4294967296) y
  have m0 := Int.emod_nonneg (x * 4294967296) (show y ≠ 0 by omega)
  have m1 := Int.emod_lt_of_pos (x * 4294967296) (show 0 < y by omega)
  have hq1 : -72057594037927936 ≤ x * 4294967296 / y := by
    rw [Int.le_ediv_iff_mul_le (by omega)]
    have := Int.mul_le_mul_of_nonneg_left hy (show (0 : Int) ≤ 72057594037927936 by decide)
    rw [Int.neg_mul]; omega
  have hq2 : x * 4294967296 / y ≤ 72057594037927936 := by
    have : x * 4294967296 / y < 72057594037927937 := by
      rw [Int.ediv_lt_iff_lt_mul (by omega)]
      have := Int.mul_le_mul_of_nonneg_left hy (show (0 : Int) ≤ 72057594037927937 by decide)
      omega
    omega
  have hv : divF x y = x * 4294967296 / y := by unfold divF; rw [if_neg (by omega), if_pos (by omega), clamp_id (by omega) (by omega)]
  rw [hv]
  generalize x * 4294967296 / y = q at *
  generalize x * 4294967296 % y = r at *
  refine ⟨by omega, hq2, ?_, ?_⟩
  · have : mulF q y = clamp (q * y / 4294967296) := rfl
    rw [this]
    have h1 : q * y / 4294967296 ≤ x := by rw [Int.mul_comm] at e; omega
    exact Int.le_trans (clamp_mono h1) (by rw [clamp_id (by omega) (by omega)]; omega)
  · have : mulF (q + 1) y = clamp ((q + 1) * y / 4294967296) := rfl
    rw [this]
    have h1 : x ≤ (q + 1) * y / 4294967296 := by rw [Int.add_mul, Int.one_mul, Int.mul_comm q y]; omega
    exact Int.le_trans (by rw [clamp_id (by omega) (by omega)]; omega) (clamp_mono h1)
/-- a root times itself -/
theorem root_mul {a : Int} (h1 : 1 ≤ a) (h2 : a ≤ 9223372036854775807) : mulF (sqrtF a) (sqrtF a) ≤ a ∧ a ≤ mulF (sqrtF a + 1) (sqrtF a + 1) := by
  obtain ⟨r, e, hr, h3, h4⟩ := sqrtF_spec h1 h2
  rw [e]
  have h3' : (r : Int) * (r : Int) ≤ a * 4294967296 := by
    have : ((r * r : Nat) : Int) ≤ ((a.toNat * 4294967296 : Nat) : Int) := by omega
    rw [Int.natCast_mul, Int.natCast_mul] at this
    rw [Int.toNat_of_nonneg (by omega)] at this
    exact this
  have h4' : a * 4294967296 < ((r : Int) + 1) * ((r : Int) + 1) := by
    have : ((a.toNat * 4294967296 : Nat) : Int) < (((r + 1) * (r + 1) : Nat) : Int) := by omega
    rw [Int.natCast_mul, Int.natCast_mul] at this
    rw [Int.toNat_of_nonneg (by omega)] at this
    simpa using this
  refine ⟨?_, ?_⟩
  · exact Int.le_trans (clamp_mono (show (r : Int) * r / 4294967296 ≤ a by omega)) (by rw [clamp_id (by omega) (by omega)]; omega)
  · exact Int.le_trans (by rw [clamp_id (by omega) (by omega)]; omega) (clamp_mono (show a ≤ ((r : Int) + 1) * (r + 1) / 4294967296 by omega))
theorem floor_of {m : Int} (h1 : -2147483648 ≤ m) (h2 : m ≤ 2147483647) : floorF (ofF m) = m := by
  unfold floorF ofF; rw [clamp_id (by omega) (by omega)]; omega
end Go.Proofs.Ytnfbeldiideonaa.FixP
