/- The walks of layer 1's reference: numbers brought in, products by halves, whole numbers. -/
import Derived.Test.YtnfbeldiideonaaFixU
set_option linter.unusedVariables false
set_option linter.unusedSimpArgs false
namespace Go.Proofs.Ytnfbeldiideonaa.FixT
open Go.RowKit FixM Base Num FixW FixV FixU

set_option maxRecDepth 100000 in
set_option maxHeartbeats 2000000 in
theorem in_any (hi lo : Nat) (neg rest : Bool) (hh : hi < 18446744073709551615) (hl : lo < 18446744073709551616) (w : World) : Calls Try.prog 61 #[.int .u64 (hi : Int), .int .u64 (lo : Int), .bool neg, .bool rest] w fun e w' => e = .returned (.int .i64 (told (!neg) hi lo rest)) ∧ w = w' := by
  cases neg
  · by_cases h1 : 0 < hi
    · have HV := Lib.hid (show told (!false) hi lo rest = 9223372036854775807 by unfold told; rw [if_pos (show (!false) = true from rfl), if_pos (by omega)])
      go_enter Try.func61, Try.ntmps61
      go_wp2_with fail
      go_ret
      exact ⟨ret_int HV.out.symm, rfl⟩
    · by_cases h2 : 9223372036854775807 < lo
      · have HV := Lib.hid (show told (!false) hi lo rest = 9223372036854775807 by unfold told; rw [if_pos (show (!false) = true from rfl), if_pos (by omega)])
        go_enter Try.func61, Try.ntmps61
        go_wp2_with fail
        go_ret
        exact ⟨ret_int HV.out.symm, rfl⟩
      · have HV := Lib.hid (show told (!false) hi lo rest = (lo : Int) by unfold told; rw [if_pos (show (!false) = true from rfl), if_neg (by omega)])
        go_enter Try.func61, Try.ntmps61
        go_wp2_with fail
        go_ret
        exact ⟨ret_int (by rw [HV.out]; try omega), rfl⟩
  · cases rest
    · by_cases h1 : 0 < hi
      · have HV := Lib.hid (show told (!true) hi lo false = -9223372036854775808 by unfold told; rw [if_neg (by decide), if_pos (by omega)])
        go_enter Try.func61, Try.ntmps61
        go_wp2_with fail
        go_ret
        exact ⟨ret_int HV.out.symm, rfl⟩
      · by_cases h2 : 9223372036854775808 < lo
        · have HV := Lib.hid (show told (!true) hi lo false = -9223372036854775808 by unfold told; rw [if_neg (by decide), if_pos (by omega)])
          go_enter Try.func61, Try.ntmps61
          go_wp2_with fail
          go_ret
          exact ⟨ret_int HV.out.symm, rfl⟩
        · have HV := Lib.hid (show told (!true) hi lo false = -(lo : Int) by
            unfold told; rw [if_neg (by decide)]
            split <;> simp <;> omega)
          go_enter Try.func61, Try.ntmps61
          go_wp2_with fail
          go_ret
          refine ⟨ret_int ?_, rfl⟩
          rw [HV.out]
          (try simp only [IntKind.wrap_u64, IntKind.wrap_i64, wrap64]); (try omega)
    · by_cases h0 : lo = 18446744073709551615
      · have HV := Lib.hid (show told (!true) hi lo true = -9223372036854775808 by unfold told; rw [if_neg (by decide), if_pos (by omega)])
        have e0 : IntKind.u64.wrap ((lo : Int) + 1) = 0 := by rw [IntKind.wrap_u64]; omega
        clear h0
        go_enter Try.func61, Try.ntmps61
        go_wp2_with fail
        go_ret
        exact ⟨ret_int HV.out.symm, rfl⟩
      · obtain ⟨m, hm⟩ : ∃ m, m = lo + 1 := ⟨_, rfl⟩
        have e1 : IntKind.u64.wrap ((lo : Int) + 1) = (m : Int) := by rw [IntKind.wrap_u64]; omega
        have b0 : ((m : Int) == 0) = false := by simp; omega
        have m1 : m < 18446744073709551616 := by omega
        by_cases h1 : 0 < hi
        · have HV := Lib.hid (show told (!true) hi lo true = -9223372036854775808 by unfold told; rw [if_neg (by decide), if_pos (by omega)])
          clear h0 hl hm
          go_enter Try.func61, Try.ntmps61
          go_wp2_with fail
          go_ret
          exact ⟨ret_int HV.out.symm, rfl⟩
        · by_cases h2 : 9223372036854775808 < m
          · have HV := Lib.hid (show told (!true) hi lo true = -9223372036854775808 by unfold told; rw [if_neg (by decide), if_pos (by omega)])
            clear h0 hl hm
            go_enter Try.func61, Try.ntmps61
            go_wp2_with fail
            go_ret
            exact ⟨ret_int HV.out.symm, rfl⟩
          · have HV := Lib.hid (show told (!true) hi lo true = -(m : Int) by
              unfold told; rw [if_neg (by decide), if_neg (by omega)]; simp; omega)
            clear h0 hl hm
            go_enter Try.func61, Try.ntmps61
            go_wp2_with fail
            go_ret
            refine ⟨ret_int ?_, rfl⟩
            rw [HV.out]
            (try simp only [IntKind.wrap_u64, IntKind.wrap_i64, wrap64]); (try omega)
theorem lo_eq (A B : Nat) : IntKind.u64.wrap (IntKind.u64.wrap ((A : Int) * 4294967296) + ((B % 4294967296 : Nat) : Int)) = ((A % 4294967296 * 4294967296 + B % 4294967296 : Nat) : Int) := by
  rw [IntKind.wrap_u64, IntKind.wrap_u64]; omega
theorem prod_split (a b c d : Nat) (ha : a < 4294967296) (hb : b < 4294967296) (hc : c < 4294967296) (hd : d < 4294967296) :
    a * d + b * d / 4294967296 < 18446744073709551616 ∧ b * c + (a * d + b * d / 4294967296) % 4294967296 < 18446744073709551616 ∧
    a * c + (a * d + b * d / 4294967296) / 4294967296 < 18446744073709551616 ∧
    a * c + (a * d + b * d / 4294967296) / 4294967296 + (b * c + (a * d + b * d / 4294967296) % 4294967296) / 4294967296 = (a * 4294967296 + b) * (c * 4294967296 + d) / 18446744073709551616 ∧
    (b * c + (a * d + b * d / 4294967296) % 4294967296) % 4294967296 * 4294967296 + b * d % 4294967296 = (a * 4294967296 + b) * (c * 4294967296 + d) % 18446744073709551616 ∧
    (a * 4294967296 + b) * (c * 4294967296 + d) / 18446744073709551616 < 18446744073709551616 := by
  have e : (a * 4294967296 + b) * (c * 4294967296 + d) = a * c * 18446744073709551616 + a * d * 4294967296 + b * c * 4294967296 + b * d := by
    rw [Nat.add_mul, Nat.mul_add, Nat.mul_add, Nat.mul_mul_mul_comm, Nat.mul_right_comm a 4294967296 d, ← Nat.mul_assoc b c]
    omega
  have h1 := Lib.half_mul_le (a := a) (b := c) (by omega) (by omega)
  have h2 := Lib.half_mul_le (a := a) (b := d) (by omega) (by omega)
  have h3 := Lib.half_mul_le (a := b) (b := c) (by omega) (by omega)
  have h4 := Lib.half_mul_le (a := b) (b := d) (by omega) (by omega)
  rw [e]
  generalize a * c = p at *
  generalize a * d = q at *
  generalize b * c = r at *
  generalize b * d = s at *
  clear e
  omega
set_option maxHeartbeats 2000000 in
theorem product_any (x y : Nat) (hx : x < 18446744073709551616) (hy : y < 18446744073709551616) (w : World) :
    Calls Try.prog 59 #[.int .u64 (x : Int), .int .u64 (y : Int)] w fun e w' => e = .returned (.tuple #[.int .u64 ((x * y / 18446744073709551616 : Nat) : Int), .int .u64 ((x * y % 18446744073709551616 : Nat) : Int)]) ∧ w = w' := by
  obtain ⟨p1, p2, p3, p4, p5, p6⟩ := prod_split (x / 4294967296) (x % 4294967296) (y / 4294967296) (y % 4294967296) (by omega) (by omega) (by omega) (by omega)
  have ex : x / 4294967296 * 4294967296 + x % 4294967296 = x := Nat.div_add_mod' x 4294967296
  have ey : y / 4294967296 * 4294967296 + y % 4294967296 = y := Nat.div_add_mod' y 4294967296
  rw [ex, ey] at p4 p5 p6
  have ba := Lib.half_mul_le (a := x / 4294967296) (b := y / 4294967296) (by omega) (by omega)
  have bb := Lib.half_mul_le (a := x / 4294967296) (b := y % 4294967296) (by omega) (by omega)
  have bc := Lib.half_mul_le (a := x % 4294967296) (b := y / 4294967296) (by omega) (by omega)
  have bd := Lib.half_mul_le (a := x % 4294967296) (b := y % 4294967296) (by omega) (by omega)
  have P := Lib.hid (And.intro p1 (And.intro p2 (And.intro p3 (And.intro p4 (And.intro p5 p6)))))
  clear p1 p2 p3 p4 p5 p6 ex ey
  go_enter Try.func59, Try.ntmps59
  go_wp2
  have mx := maskN x hx
  have my := maskN y hy
  obtain ⟨p1, p2, p3, p4, p5, p6⟩ := P.out
  have wa := wrapN (x / 4294967296 * (y / 4294967296)) (by omega)
  have wb := wrapN (x / 4294967296 * (y % 4294967296)) (by omega)
  have wc := wrapN (x % 4294967296 * (y / 4294967296)) (by omega)
  have wd := wrapN (x % 4294967296 * (y % 4294967296)) (by omega)
  simp only [mx, my, divN, natMul, natAdd, wa, wb, wc, wd, wrapN _ p1, maskN _ p1, wrapN _ p2, maskN _ p2, wrapN _ p3, maskN (x % 4294967296 * (y % 4294967296)) (by omega)]
  simp only [p4, wrapN _ p6, lo_eq, p5]
  go_ret2
  exact ⟨rfl, rfl⟩
end Go.Proofs.Ytnfbeldiideonaa.FixT
