/- The walks of package sha: rotations. -/
import Derived.Test.YtmdhekpfkligiaaRows
import Derived.Test.YtmdhekpfkligiaaShaM
import Derived.Test.YtmdhekpfkligiaaNum
import Derived.Test.YtmdhekpfkligiaaBase
import Derived.Lib.Mul64
set_option linter.unusedVariables false
set_option linter.unusedSimpArgs false
namespace Go.Proofs.Ytmdhekpfkligiaa.ShaW
open Go.RowKit ShaM Base Num

theorem u32_or_nat' (a b : Nat) (ha : a < 4294967296) (hb : b < 4294967296) : bits .or .u32 (a : Int) (b : Int) = ((a ||| b : Nat) : Int) :=
  (bits_nat .u32 32 (by decide) (fun n h0 h1 => by rw [IntKind.wrap_u32]; omega) a b (by omega) (by omega)).2
theorem rot_shl (x n : Nat) (h : n ≤ 32) : x * 2 ^ (32 - n) % 4294967296 = x % 2 ^ n * 2 ^ (32 - n) := by
  rw [show 4294967296 = 2 ^ n * 2 ^ (32 - n) from by rw [← Nat.pow_add, show n + (32 - n) = 32 from by omega], Nat.mul_mod_mul_right]
theorem rot_mask (n : Nat) (h1 : 1 ≤ n) (h2 : n ≤ 31) : bits BinOp.and IntKind.u64 (IntKind.u64.wrap (-(n : Int))) 31 = ((32 - n : Nat) : Int) := by
  have e1 : IntKind.u64.wrap (-(n : Int)) = ((18446744073709551616 - n : Nat) : Int) := by rw [IntKind.wrap_u64]; omega
  have h := bits_and_u64_nat (18446744073709551616 - n) 31 (by omega) (by omega)
  have e2 : (18446744073709551616 - n) &&& 31 = (18446744073709551616 - n) % 32 := Nat.and_two_pow_sub_one_eq_mod _ 5
  have e3 : (18446744073709551616 - n) % 32 = 32 - n := by omega
  rw [e1]
  rw [e2, e3] at h
  exact h
set_option maxHeartbeats 1000000 in
theorem rotl_any (x n : Nat) (hx : x < 4294967296) (h1 : 1 ≤ n) (h2 : n ≤ 31) (w : World) :
    Calls Try.prog 26 #[.int .u32 (x : Int), .int .i64 (-(n : Int))] w fun e w' => e = .returned (.int .u32 (rot x n : Nat)) ∧ w = w' := by
  have hm := rot_mask n h1 h2
  obtain ⟨k, hk⟩ : ∃ k, k = 32 - n := ⟨_, rfl⟩
  rw [← hk] at hm
  have hk1 : 1 ≤ k := by omega
  have hk2 : k ≤ 31 := by omega
  have hK := Lib.hid hk
  clear hk
  go_enter Try.func26, Try.ntmps26
  go_wp2
  go_ret
  refine ⟨ret_int ?_, rfl⟩
  obtain rfl : n = 32 - k := by have := hK.out; omega
  have hlt := rot_lt x (32 - k) hx (by omega)
  rw [show (x : Int) * 2 ^ k % 4294967296 = ((x % 2 ^ (32 - k) * 2 ^ (32 - (32 - k)) : Nat) : Int) from by
    rw [← rot_shl x (32 - k) (by omega), show 32 - (32 - k) = k from by omega]; simp]
  rw [show (x : Int) / 2 ^ (32 - k) = ((x / 2 ^ (32 - k) : Nat) : Int) from by simp]
  unfold rot at *
  have hd : x / 2 ^ (32 - k) < 2 ^ (32 - (32 - k)) := Nat.div_lt_of_lt_mul (by rw [← Nat.pow_add, show 32 - k + (32 - (32 - k)) = 32 from by omega]; exact hx)
  have ho := or_disjoint (x % 2 ^ (32 - k)) (x / 2 ^ (32 - k)) (32 - (32 - k)) hd
  generalize x % 2 ^ (32 - k) * 2 ^ (32 - (32 - k)) = A at *
  generalize x / 2 ^ (32 - k) = B at *
  rw [u32_or_nat' A B (by omega) (by omega), ho, Nat.add_comm]
set_option maxHeartbeats 1000000 in
theorem rref_any (x n : Nat) (hx : x < 4294967296) (h1 : 1 ≤ n) (h2 : n ≤ 31) (w : World) :
    Calls Try.prog 20 #[.int .u32 (x : Int), .int .u64 (n : Int)] w fun e w' => e = .returned (.int .u32 (rot x n : Nat)) ∧ w = w' := by
  go_enter Try.func20, Try.ntmps20
  go_wp2
  go_ret
  refine ⟨ret_int ?_, rfl⟩
  rw [show (x : Int) * 2 ^ (32 - n) % 4294967296 = ((x % 2 ^ n * 2 ^ (32 - n) : Nat) : Int) from by
    rw [← rot_shl x n (by omega)]; simp]
  have h := rot_lt x n hx (by omega)
  unfold rot at *
  rw [show (x : Int) / 2 ^ n = ((x / 2 ^ n : Nat) : Int) from by simp]
  generalize x / 2 ^ n = A at *
  generalize x % 2 ^ n * 2 ^ (32 - n) = B at *
  omega
set_option maxHeartbeats 1000000 in
theorem right_any (x n : Nat) (hx : x < 4294967296) (h1 : 1 ≤ n) (h2 : n ≤ 31) (w : World) :
    Calls Try.prog 24 #[.int .u32 (x : Int), .int .i64 (n : Int)] w fun e w' => e = .returned (.int .u32 (rot x n : Nat)) ∧ w = w' := by
  go_enter Try.func24, Try.ntmps24
  go_wp2_with (go_at_call 26; refine (rotl_any x n hx h1 h2 _).mono ?_; rintro e w1 ⟨rfl, rfl⟩)
  go_ret
  exact ⟨rfl, rfl⟩

theorem maskN (a : Nat) (ha : a < 18446744073709551616) : bits .and .u64 (a : Int) 4294967295 = ((a % 4294967296 : Nat) : Int) := by
  have h := bits_and_u64_nat a 4294967295 ha (by omega)
  have e : a &&& 4294967295 = a % 4294967296 := Nat.and_two_pow_sub_one_eq_mod a 32
  rw [e] at h
  exact h
theorem divN (a : Nat) : (a : Int) / 4294967296 = ((a / 4294967296 : Nat) : Int) := by omega
theorem wrapN (a : Nat) (ha : a < 18446744073709551616) : IntKind.u64.wrap (a : Int) = (a : Int) := by rw [IntKind.wrap_u64]; omega
set_option maxHeartbeats 1000000 in
theorem mul64_any (x y : Nat) (hx : x < 18446744073709551616) (hy : y < 18446744073709551616) (w : World) :
    Calls Try.prog 23 #[.int .u64 (x : Int), .int .u64 (y : Int)] w fun e w' => e = .returned (.tuple #[.int .u64 ((x * y / 18446744073709551616 : Nat) : Int), .int .u64 ((x * y % 18446744073709551616 : Nat) : Int)]) ∧ w = w' := by
  obtain ⟨bd, bt, bw, hhi⟩ := Lib.mul64_hi x y hx hy
  have ba := Lib.half_mul_le (a := x / 4294967296) (b := y / 4294967296) (by omega) (by omega)
  have bb := Lib.half_mul_le (a := x / 4294967296) (b := y % 4294967296) (by omega) (by omega)
  have bc := Lib.half_mul_le (a := x % 4294967296) (b := y / 4294967296) (by omega) (by omega)
  have ba' : x / 4294967296 * (y / 4294967296) < 18446744073709551616 := by omega
  have bb' : x / 4294967296 * (y % 4294967296) < 18446744073709551616 := by omega
  have bc' : x % 4294967296 * (y / 4294967296) < 18446744073709551616 := by omega
  have bh1 : x / 4294967296 * (y / 4294967296) + (x / 4294967296 * (y % 4294967296) + x % 4294967296 * (y % 4294967296) / 4294967296) / 4294967296 < 18446744073709551616 := by omega
  have bh : x / 4294967296 * (y / 4294967296) + (x / 4294967296 * (y % 4294967296) + x % 4294967296 * (y % 4294967296) / 4294967296) / 4294967296 + ((x / 4294967296 * (y % 4294967296) + x % 4294967296 * (y % 4294967296) / 4294967296) % 4294967296 + x % 4294967296 * (y / 4294967296)) / 4294967296 < 18446744073709551616 := by omega
  go_enter Try.func23, Try.ntmps23
  go_wp2
  simp only [maskN x hx, maskN y hy, divN, natMul, natAdd, wrapN _ bd, wrapN _ bb', wrapN _ bt, maskN _ bt, wrapN _ bc', wrapN _ bw, wrapN _ ba', wrapN _ bh1, wrapN _ bh, wrap64u (x * y)]
  rw [hhi]
  go_ret2
  exact ⟨rfl, rfl⟩

/-- is it at most p times 2^96? -/
def cubeB (r p : Nat) : Bool := decide (r * r * r ≤ p * 79228162514264337593543950336)
theorem cube_hi (r : Nat) (hr : r < 68719476736) : (r * r / 18446744073709551616 * r + r * r % 18446744073709551616 * r / 18446744073709551616) = r * r * r / 18446744073709551616 ∧ r * r % 18446744073709551616 * r % 18446744073709551616 = r * r * r % 18446744073709551616 := by
  have e : r * r * r = 18446744073709551616 * (r * r / 18446744073709551616 * r) + r * r % 18446744073709551616 * r := by
    have h := Nat.div_add_mod (r * r) 18446744073709551616
    calc r * r * r = (18446744073709551616 * (r * r / 18446744073709551616) + r * r % 18446744073709551616) * r := by rw [h]
      _ = _ := by rw [Nat.add_mul, Nat.mul_assoc]
  generalize r * r / 18446744073709551616 * r = A at *
  generalize r * r % 18446744073709551616 * r = B at *
  rw [e]
  omega
theorem cube_le (r : Nat) (hr : r < 68719476736) : r * r * r / 18446744073709551616 < 18446744073709551616 := by
  have h1 : r * r ≤ 68719476735 * 68719476735 := Nat.mul_le_mul (by omega) (by omega)
  have h2 : r * r * r ≤ 68719476735 * 68719476735 * 68719476735 := Nat.mul_le_mul h1 (by omega)
  omega
theorem cube_fin (r p a b c d A : Nat) (hr : r < 68719476736) (hp : p < 65536) (ha : r * r / 18446744073709551616 = a) (hb : r * r % 18446744073709551616 = b) (hc : b * r / 18446744073709551616 = c) (hd : b * r % 18446744073709551616 = d) (hA : A = a * r) :
    (cubeB r p = if A + c < p * 4294967296 then true else if A + c = p * 4294967296 then decide (d = 0) else false) ∧ A + c < 18446744073709551616 := by
  obtain ⟨h1, h2⟩ := cube_hi r hr
  have h3 := cube_le r hr
  rw [ha, hb, hc, ← hA] at h1
  rw [hb, hd] at h2
  generalize hq : r * r * r = q at *
  refine ⟨?_, by omega⟩
  unfold cubeB
  rw [hq]
  clear hq hA hc hb ha
  split
  · simp; omega
  · split
    · by_cases hd0 : d = 0
      · simp [hd0]; omega
      · simp [hd0]; omega
    · simp; omega
theorem sq_lt (r : Nat) (hr : r < 68719476736) : r * r < 4722366482869645213696 := Nat.mul_lt_mul'' hr hr
set_option maxRecDepth 100000 in
set_option maxHeartbeats 1000000 in
theorem cube_any (r p : Nat) (hr : r < 68719476736) (hp : p < 65536) (w : World) :
    Calls Try.prog 22 #[.int .u64 (r : Int), .int .u64 (p : Int)] w fun e w' => e = .returned (.bool (cubeB r p)) ∧ w = w' := by
  have h4 : r * r % 18446744073709551616 < 18446744073709551616 := Nat.mod_lt _ (by omega)
  have m1 := mul64_any r r (by omega) (by omega) w
  have m2 := mul64_any (r * r % 18446744073709551616) r h4 (by omega) w
  obtain ⟨a, ha⟩ : ∃ a, r * r / 18446744073709551616 = a := ⟨_, rfl⟩
  obtain ⟨b, hb⟩ : ∃ b, r * r % 18446744073709551616 = b := ⟨_, rfl⟩
  obtain ⟨c, hc⟩ : ∃ c, b * r / 18446744073709551616 = c := ⟨_, rfl⟩
  obtain ⟨d, hd⟩ : ∃ d, b * r % 18446744073709551616 = d := ⟨_, rfl⟩
  obtain ⟨A, hA⟩ : ∃ A, A = a * r := ⟨_, rfl⟩
  obtain ⟨hfin, hAc⟩ := cube_fin r p a b c d A hr hp ha hb hc hd hA
  have e1 : (a : Int) * (r : Int) = (A : Int) := by rw [hA, natMul]
  rw [ha, hb] at m1
  rw [hb, hc, hd] at m2
  have H1 := Lib.hid m1
  have H2 := Lib.hid m2
  have HF := Lib.hid hfin
  clear m1 m2 hfin ha hb hc hd hA h4
  by_cases c1 : A + c < p * 4294967296
  · rw [if_pos c1] at HF
    have t0 : decide (((A : Int) + (c : Int)) < (p : Int) * 4294967296) = true := decide_eq_true (by omega)
    clear c1
    go_enter Try.func22, Try.ntmps22
    go_wp2_with fail
    refine H1.out.mono ?_
    rintro e w1 ⟨rfl, rfl⟩
    go_wp2_with fail
    refine H2.out.mono ?_
    rintro e w1 ⟨rfl, rfl⟩
    go_wp2_with fail
    go_ret
    exact ⟨by rw [HF.out]; rfl, rfl⟩
  · rw [if_neg c1] at HF
    by_cases c2 : A + c = p * 4294967296
    · rw [if_pos c2] at HF
      have t0 : decide (((A : Int) + (c : Int)) < (p : Int) * 4294967296) = false := decide_eq_false (by omega)
      have t1 : (((A : Int) + (c : Int)) == (p : Int) * 4294967296) = true := by simp; omega
      by_cases c3 : d = 0
      · have t2 : ((d : Int) == 0) = true := by simp; omega
        rw [decide_eq_true c3] at HF
        clear c2 c3
        go_enter Try.func22, Try.ntmps22
        go_wp2_with fail
        refine H1.out.mono ?_
        rintro e w1 ⟨rfl, rfl⟩
        go_wp2_with fail
        refine H2.out.mono ?_
        rintro e w1 ⟨rfl, rfl⟩
        go_wp2_with fail
        go_ret
        exact ⟨by rw [HF.out]; rfl, rfl⟩
      · have t2 : ((d : Int) == 0) = false := by simp; omega
        rw [decide_eq_false c3] at HF
        clear c2 c3
        go_enter Try.func22, Try.ntmps22
        go_wp2_with fail
        refine H1.out.mono ?_
        rintro e w1 ⟨rfl, rfl⟩
        go_wp2_with fail
        refine H2.out.mono ?_
        rintro e w1 ⟨rfl, rfl⟩
        go_wp2_with fail
        go_ret
        exact ⟨by rw [HF.out]; rfl, rfl⟩
    · rw [if_neg c2] at HF
      have t0 : decide (((A : Int) + (c : Int)) < (p : Int) * 4294967296) = false := decide_eq_false (by omega)
      have t1 : (((A : Int) + (c : Int)) == (p : Int) * 4294967296) = false := by simp; omega
      clear c2
      go_enter Try.func22, Try.ntmps22
      go_wp2_with fail
      refine H1.out.mono ?_
      rintro e w1 ⟨rfl, rfl⟩
      go_wp2_with fail
      refine H2.out.mono ?_
      rintro e w1 ⟨rfl, rfl⟩
      go_wp2_with fail
      go_ret
      exact ⟨by rw [HF.out]; rfl, rfl⟩

end Go.Proofs.Ytmdhekpfkligiaa.ShaW
