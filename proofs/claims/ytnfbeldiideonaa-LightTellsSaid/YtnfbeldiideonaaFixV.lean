/- The walks of package fix and of its reference: signs, sizes, whole numbers, products. -/
import Derived.Test.YtnfbeldiideonaaFixW
import Derived.Lib.Mul64
set_option linter.unusedVariables false
set_option linter.unusedSimpArgs false
namespace Go.Proofs.Ytnfbeldiideonaa.FixV
open Go.RowKit FixM Base Num FixW

set_option maxHeartbeats 1000000 in
theorem size_any (a : Int) (h1 : -9223372036854775808 ≤ a) (h2 : a ≤ 9223372036854775807) (w : World) : Calls Try.prog 52 #[.int .i64 a] w fun e w' => e = .returned (.int .u64 ((a.natAbs : Nat) : Int)) ∧ w = w' := by
  by_cases h : a < 0
  · go_enter Try.func52, Try.ntmps52
    go_wp2_with fail
    go_ret
    refine ⟨ret_int ?_, rfl⟩
    simp only [IntKind.wrap_u64]; omega
  · go_enter Try.func52, Try.ntmps52
    go_wp2_with fail
    go_ret
    refine ⟨ret_int ?_, rfl⟩
    (try simp only [IntKind.wrap_u64]); omega
set_option maxHeartbeats 1000000 in
theorem rsize_any (a : Int) (h1 : -9223372036854775808 ≤ a) (h2 : a ≤ 9223372036854775807) (w : World) : Calls Try.prog 60 #[.int .i64 a] w fun e w' => e = .returned (.int .u64 ((a.natAbs : Nat) : Int)) ∧ w = w' := by
  by_cases h : a < 0
  · go_enter Try.func60, Try.ntmps60
    go_wp2_with fail
    go_ret
    refine ⟨ret_int ?_, rfl⟩
    simp only [IntKind.wrap_u64]; omega
  · go_enter Try.func60, Try.ntmps60
    go_wp2_with fail
    go_ret
    refine ⟨ret_int ?_, rfl⟩
    (try simp only [IntKind.wrap_u64]); omega
/-- the function of sizes that signs hands back -/
def toldV (same : Bool) : Value := if same then .func (.func 68) #[] #[] else .func (.func 69) #[] #[]
set_option maxHeartbeats 1000000 in
theorem signs_any (a b : Int) (w : World) : Calls Try.prog 51 #[.int .i64 a, .int .i64 b] w fun e w' => e = .returned (toldV (sameB a b)) ∧ w = w' := by
  by_cases ha : a < 0 <;> by_cases hb : b < 0
  · have HV := Lib.hid (show sameB a b = true by unfold sameB; rw [decide_eq_true ha, decide_eq_true hb]; rfl)
    go_enter Try.func51, Try.ntmps51
    go_wp2_with fail
    go_ret
    exact ⟨by rw [HV.out]; rfl, rfl⟩
  · have HV := Lib.hid (show sameB a b = false by unfold sameB; rw [decide_eq_true ha, decide_eq_false hb]; rfl)
    go_enter Try.func51, Try.ntmps51
    go_wp2_with fail
    go_ret
    exact ⟨by rw [HV.out]; rfl, rfl⟩
  · have HV := Lib.hid (show sameB a b = false by unfold sameB; rw [decide_eq_false ha, decide_eq_true hb]; rfl)
    go_enter Try.func51, Try.ntmps51
    go_wp2_with fail
    go_ret
    exact ⟨by rw [HV.out]; rfl, rfl⟩
  · have HV := Lib.hid (show sameB a b = true by unfold sameB; rw [decide_eq_false ha, decide_eq_false hb]; rfl)
    go_enter Try.func51, Try.ntmps51
    go_wp2_with fail
    go_ret
    exact ⟨by rw [HV.out]; rfl, rfl⟩
set_option maxHeartbeats 1000000 in
theorem told1_any (hi lo : Nat) (rest : Bool) (hl : lo < 18446744073709551616) (w : World) : Calls Try.prog 68 #[.int .u64 (hi : Int), .int .u64 (lo : Int), .bool rest] w fun e w' => e = .returned (.int .i64 (told true hi lo rest)) ∧ w = w' := by
  by_cases h1 : hi = 0
  · by_cases h2 : 9223372036854775807 < lo
    · have HV := Lib.hid (show told true hi lo rest = 9223372036854775807 by unfold told; rw [if_pos rfl, if_pos (Or.inr h2)])
      have b1 : ((hi : Int) != 0) = false := by simp; omega
      clear h1
      go_enter Try.func68, Try.ntmps68
      go_wp2_with fail
      go_ret
      exact ⟨ret_int HV.out.symm, rfl⟩
    · have HV := Lib.hid (show told true hi lo rest = (lo : Int) by unfold told; rw [if_pos rfl, if_neg (by omega)])
      have b1 : ((hi : Int) != 0) = false := by simp; omega
      clear h1
      go_enter Try.func68, Try.ntmps68
      go_wp2_with fail
      go_ret
      exact ⟨ret_int (by rw [HV.out]; try omega), rfl⟩
  · have HV := Lib.hid (show told true hi lo rest = 9223372036854775807 by unfold told; rw [if_pos rfl, if_pos (Or.inl h1)])
    have b1 : ((hi : Int) != 0) = true := by simp; omega
    clear h1
    go_enter Try.func68, Try.ntmps68
    go_wp2_with fail
    go_ret
    exact ⟨ret_int HV.out.symm, rfl⟩
set_option maxHeartbeats 1000000 in
theorem told2_any (hi lo : Nat) (rest : Bool) (hl : lo < 18446744073709551616) (w : World) : Calls Try.prog 69 #[.int .u64 (hi : Int), .int .u64 (lo : Int), .bool rest] w fun e w' => e = .returned (.int .i64 (told false hi lo rest)) ∧ w = w' := by
  by_cases h1 : hi = 0
  · by_cases h2 : 9223372036854775807 < lo
    · have HV := Lib.hid (show told false hi lo rest = -9223372036854775808 by unfold told; rw [if_neg (by decide), if_pos (Or.inr h2)])
      have b1 : ((hi : Int) != 0) = false := by simp; omega
      clear h1
      go_enter Try.func69, Try.ntmps69
      go_wp2_with fail
      go_ret
      exact ⟨ret_int HV.out.symm, rfl⟩
    · have HV := Lib.hid (show told false hi lo rest = -(lo : Int) - (if rest then 1 else 0) by unfold told; rw [if_neg (by decide), if_neg (by omega)])
      have b1 : ((hi : Int) != 0) = false := by simp; omega
      clear h1
      cases rest
      · go_enter Try.func69, Try.ntmps69
        go_wp2_with fail
        go_ret
        exact ⟨ret_int (by rw [HV.out]; simp), rfl⟩
      · go_enter Try.func69, Try.ntmps69
        go_wp2_with fail
        go_ret
        exact ⟨ret_int (by rw [HV.out]; simp), rfl⟩
  · have HV := Lib.hid (show told false hi lo rest = -9223372036854775808 by unfold told; rw [if_neg (by decide), if_pos (Or.inl h1)])
    have b1 : ((hi : Int) != 0) = true := by simp; omega
    clear h1
    go_enter Try.func69, Try.ntmps69
    go_wp2_with fail
    go_ret
    exact ⟨ret_int HV.out.symm, rfl⟩

theorem maskN (a : Nat) (ha : a < 18446744073709551616) : bits .and .u64 (a : Int) 4294967295 = ((a % 4294967296 : Nat) : Int) := by
  have h := bits_and_u64_nat a 4294967295 ha (by omega)
  have e : a &&& 4294967295 = a % 4294967296 := Nat.and_two_pow_sub_one_eq_mod a 32
  rw [e] at h
  exact h
theorem divN (a : Nat) : (a : Int) / 4294967296 = ((a / 4294967296 : Nat) : Int) := by omega
theorem wrapN (a : Nat) (ha : a < 18446744073709551616) : IntKind.u64.wrap (a : Int) = (a : Int) := by rw [IntKind.wrap_u64]; omega
set_option maxHeartbeats 1000000 in
theorem mul64_any (x y : Nat) (hx : x < 18446744073709551616) (hy : y < 18446744073709551616) (w : World) :
    Calls Try.prog 54 #[.int .u64 (x : Int), .int .u64 (y : Int)] w fun e w' => e = .returned (.tuple #[.int .u64 ((x * y / 18446744073709551616 : Nat) : Int), .int .u64 ((x * y % 18446744073709551616 : Nat) : Int)]) ∧ w = w' := by
  obtain ⟨bd, bt, bw, hhi⟩ := Lib.mul64_hi x y hx hy
  have ba := Lib.half_mul_le (a := x / 4294967296) (b := y / 4294967296) (by omega) (by omega)
  have bb := Lib.half_mul_le (a := x / 4294967296) (b := y % 4294967296) (by omega) (by omega)
  have bc := Lib.half_mul_le (a := x % 4294967296) (b := y / 4294967296) (by omega) (by omega)
  have ba' : x / 4294967296 * (y / 4294967296) < 18446744073709551616 := by omega
  have bb' : x / 4294967296 * (y % 4294967296) < 18446744073709551616 := by omega
  have bc' : x % 4294967296 * (y / 4294967296) < 18446744073709551616 := by omega
  have bh1 : x / 4294967296 * (y / 4294967296) + (x / 4294967296 * (y % 4294967296) + x % 4294967296 * (y % 4294967296) / 4294967296) / 4294967296 < 18446744073709551616 := by omega
  have bh : x / 4294967296 * (y / 4294967296) + (x / 4294967296 * (y % 4294967296) + x % 4294967296 * (y % 4294967296) / 4294967296) / 4294967296 + ((x / 4294967296 * (y % 4294967296) + x % 4294967296 * (y % 4294967296) / 4294967296) % 4294967296 + x % 4294967296 * (y / 4294967296)) / 4294967296 < 18446744073709551616 := by omega
  go_enter Try.func54, Try.ntmps54
  go_wp2
  simp only [maskN x hx, maskN y hy, divN, natMul, natAdd, wrapN _ bd, wrapN _ bb', wrapN _ bt, maskN _ bt, wrapN _ bc', wrapN _ bw, wrapN _ ba', wrapN _ bh1, wrapN _ bh, wrap64u (x * y)]
  rw [hhi]
  go_ret2
  exact ⟨rfl, rfl⟩
end Go.Proofs.Ytnfbeldiideonaa.FixV
