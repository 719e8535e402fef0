/- The walks of layer 1: roots and cosines of both sides. -/
import Derived.Test.YtnfbeldiideonaaFixS
set_option linter.unusedVariables false
set_option linter.unusedSimpArgs false
namespace Go.Proofs.Ytnfbeldiideonaa.FixN
open Go.RowKit FixM Base Num FixW FixV FixU FixT FixS

theorem cmp_sq (X n hi lo : Nat) (h : n = hi * 18446744073709551616 + lo) (hl : lo < 18446744073709551616) (hX : X ≤ n) :
    X / 18446744073709551616 < hi ∨ (X / 18446744073709551616 = hi ∧ X % 18446744073709551616 ≤ lo) := by omega
theorem cmp_sq' (X n hi lo : Nat) (h : n = hi * 18446744073709551616 + lo) (hl : lo < 18446744073709551616) (hX : ¬ X ≤ n) :
    hi < X / 18446744073709551616 ∨ (X / 18446744073709551616 = hi ∧ lo < X % 18446744073709551616) := by omega

set_option maxRecDepth 100000 in
set_option maxHeartbeats 4000000 in
theorem sqrt_any (a : Int) (h1 : -9223372036854775808 ≤ a) (h2 : a ≤ 9223372036854775807) (w : World) : Calls Try.prog 41 #[.int .i64 a] w fun e w' => e = .returned (.int .i64 (sqrtF a)) ∧ w = w' := by
  by_cases c0 : a < 1
  · have HV := Lib.hid (show sqrtF a = 0 by unfold sqrtF; rw [if_pos c0])
    go_enter Try.func41, Try.ntmps41
    go_wp2_with fail
    go_ret
    exact ⟨ret_int HV.out.symm, rfl⟩
  · have hv : sqrtF a = ((root (a.toNat * 4294967296) : Nat) : Int) := by unfold sqrtF; rw [if_neg c0]
    obtain ⟨A, hA⟩ : ∃ A : Nat, a = (A : Int) := ⟨a.toNat, by omega⟩
    subst hA
    rw [show ((A : Int)).toNat = A by omega] at hv
    obtain ⟨n, hn⟩ : ∃ n, n = A * 4294967296 := ⟨_, rfl⟩
    rw [← hn] at hv
    obtain ⟨hi, hhi⟩ : ∃ q, q = A / 4294967296 := ⟨_, rfl⟩
    obtain ⟨lo, hlo⟩ : ∃ q, q = A * 4294967296 % 18446744073709551616 := ⟨_, rfl⟩
    have hsplit : n = hi * 18446744073709551616 + lo := by rw [hn, hhi, hlo]; exact split_n A
    have hlb : lo < 18446744073709551616 := by omega
    have hnb : n < 79228162514264337593543950336 := by omega
    have e1 : (A : Int) / 4294967296 = (hi : Int) := by rw [hhi]; omega
    have e2 : IntKind.u64.wrap ((A : Int) * 4294967296) = (lo : Int) := by rw [IntKind.wrap_u64, hlo]; omega
    have HV := Lib.hid hv
    have HN := Lib.hid (And.intro hsplit (And.intro hlb hnb))
    clear hv hn hhi hlo hsplit hnb
    go_enter Try.func41, Try.ntmps41
    go_wp2_with fail
    clear e1 e2
    go_loop [5, 6] (fun vr vb => ∃ k r m : Nat, k ≤ 48 ∧ vr = .int .u64 (r : Int) ∧ vb = .int .u64 ((2 ^ k / 2 : Nat) : Int) ∧ r = m * 2 ^ k ∧ r + 2 ^ k ≤ 281474976710656 ∧ Hid (rootB n k r = root n)) (fun _ v => (intOf v).toNat)
    case atStart => exact ⟨48, 0, 0, by omega, rfl, rfl, by simp, by decide, Lib.hid (rootB_start n)⟩
    case round =>
      obtain ⟨k, r, m, hk, rfl, rfl, hrm, hr2, hroot⟩ := hrel
      cases k with
      | zero =>
        have HR := Lib.hid (show (r : Int) = sqrtF (A : Int) by rw [HV.out, ← hroot.out, rootB_zero])
        have hrb : r < 281474976710656 := by simp at hr2; omega
        clear hrm hr2 hroot
        simp only [Nat.pow_zero, show (1 : Nat) / 2 = 0 from rfl]
        go_wp2_with fail
        go_ret
        exact ⟨ret_int HR.out, rfl⟩
      | succ j =>
        have hp : 2 ^ (j + 1) = 2 * 2 ^ j := by rw [Nat.pow_succ]; omega
        have hp2 : 2 ^ (j + 1) / 2 = 2 ^ j := by rw [hp]; omega
        rw [hp2]
        obtain ⟨b, hb⟩ : ∃ b, b = 2 ^ j := ⟨_, rfl⟩
        have hb1 : 1 ≤ b := by rw [hb]; exact Nat.one_le_two_pow
        have hor : bits .or .u64 (r : Int) (b : Int) = ((r + b : Nat) : Int) := by
          rw [u64_or_nat r b (by omega) (by omega), hrm, or_disjoint m b (j + 1) (by omega)]
        obtain ⟨nx, hnx⟩ : ∃ x, x = r + b := ⟨_, rfl⟩
        rw [← hnx] at hor
        rw [← hb]
        have hnb : nx < 281474976710656 := by omega
        have m1 := mul64_any nx nx (by omega) (by omega) w
        obtain ⟨X, hX⟩ : ∃ X, X = nx * nx := ⟨_, rfl⟩
        rw [← hX] at m1
        obtain ⟨H, hH⟩ : ∃ H, H = X / 18446744073709551616 := ⟨_, rfl⟩
        obtain ⟨L, hL⟩ : ∃ L, L = X % 18446744073709551616 := ⟨_, rfl⟩
        rw [← hH, ← hL] at m1
        have M1 := Lib.hid m1
        have NX := Lib.hid (And.intro hnx (And.intro hrm (And.intro hr2 (And.intro hp hb))))
        have hrl : r < 281474976710656 := by omega
        have hbl : b < 281474976710656 := by omega
        have hlt : L < 18446744073709551616 := by omega
        by_cases fits : X ≤ n
        · have HR := Lib.hid (show rootB n j nx = root n by rw [← hroot.out, rootB_fit n j r (by rw [← hb, ← hnx, ← hX]; exact fits), ← hb, ← hnx])
          have hc := cmp_sq X n hi lo HN.out.1 hlb fits
          rw [← hH, ← hL] at hc
          have REL := Lib.hid (show ∃ m' : Nat, nx = m' * 2 ^ j ∧ nx + 2 ^ j ≤ 281474976710656 from ⟨2 * m + 1, by rw [hnx, hrm, hp, Nat.add_mul, ← hb]; rw [Nat.mul_left_comm, ← Nat.mul_assoc]; omega, by rw [← hb]; omega⟩)
          clear fits m1 hX hH hL hrm hr2 hp hp2 hnx hroot hb
          rcases hc with hc | ⟨hc, hc2⟩
          · have d1 : decide (H < hi) = true := decide_eq_true (by omega)
            go_wp2_with fail
            refine M1.out.mono ?_
            rintro e w1 ⟨rfl, rfl⟩
            go_wp2_with fail
            go_round
            case rel => obtain ⟨m', r1, r2⟩ := REL.out; exact ⟨j, nx, m', by omega, rfl, by rw [← NX.out.2.2.2.2]; exact congrArg (Value.int .u64) (by omega), r1, r2, HR⟩
            case measure => simp [intOf]; omega
          · have d1 : decide (H < hi) = false := decide_eq_false (by omega)
            have d1' : ¬ H < hi := by omega
            have d2 : ((H : Int) == (hi : Int)) = true := by simp; omega
            have d3 : decide (L ≤ lo) = true := decide_eq_true (by omega)
            clear hc
            go_wp2_with fail
            refine M1.out.mono ?_
            rintro e w1 ⟨rfl, rfl⟩
            go_wp2_with fail
            go_round
            case rel => obtain ⟨m', r1, r2⟩ := REL.out; exact ⟨j, nx, m', by omega, rfl, by rw [← NX.out.2.2.2.2]; exact congrArg (Value.int .u64) (by omega), r1, r2, HR⟩
            case measure => simp [intOf]; omega
        · have HR := Lib.hid (show rootB n j r = root n by rw [← hroot.out, rootB_skip n j r (by rw [← hb, ← hnx, ← hX]; exact fits)])
          have hc := cmp_sq' X n hi lo HN.out.1 hlb fits
          rw [← hH, ← hL] at hc
          have REL := Lib.hid (show ∃ m' : Nat, r = m' * 2 ^ j ∧ r + 2 ^ j ≤ 281474976710656 from ⟨2 * m, by rw [hrm, hp]; rw [Nat.mul_left_comm, ← Nat.mul_assoc], by rw [← hb]; omega⟩)
          clear fits m1 hX hH hL hrm hr2 hp hp2 hnx hroot hb
          rcases hc with hc | ⟨hc, hc2⟩
          · have d1 : decide (H < hi) = false := decide_eq_false (by omega)
            have d1' : ¬ H < hi := by omega
            have d2 : ((H : Int) == (hi : Int)) = false := by simp; omega
            clear hc
            go_wp2_with fail
            refine M1.out.mono ?_
            rintro e w1 ⟨rfl, rfl⟩
            go_wp2_with fail
            go_round
            case rel => obtain ⟨m', r1, r2⟩ := REL.out; exact ⟨j, r, m', by omega, rfl, by rw [← NX.out.2.2.2.2]; exact congrArg (Value.int .u64) (by omega), r1, r2, HR⟩
            case measure => simp [intOf]; omega
          · have d1 : decide (H < hi) = false := decide_eq_false (by omega)
            have d1' : ¬ H < hi := by omega
            have d2 : ((H : Int) == (hi : Int)) = true := by simp; omega
            have d3 : decide (L ≤ lo) = false := decide_eq_false (by omega)
            have d3' : ¬ L ≤ lo := by omega
            clear hc
            go_wp2_with fail
            refine M1.out.mono ?_
            rintro e w1 ⟨rfl, rfl⟩
            go_wp2_with fail
            go_round
            case rel => obtain ⟨m', r1, r2⟩ := REL.out; exact ⟨j, r, m', by omega, rfl, by rw [← NX.out.2.2.2.2]; exact congrArg (Value.int .u64) (by omega), r1, r2, HR⟩
            case measure => simp [intOf]; omega

set_option maxRecDepth 100000 in
set_option maxHeartbeats 4000000 in
theorem rsqrt_any (a : Int) (h1 : -9223372036854775808 ≤ a) (h2 : a ≤ 9223372036854775807) (w : World) : Calls Try.prog 46 #[.int .i64 a] w fun e w' => e = .returned (.int .i64 (sqrtF a)) ∧ w = w' := by
  by_cases c0 : a < 1
  · have HV := Lib.hid (show sqrtF a = 0 by unfold sqrtF; rw [if_pos c0])
    go_enter Try.func46, Try.ntmps46
    go_wp2_with fail
    go_ret
    exact ⟨ret_int HV.out.symm, rfl⟩
  · have hv : sqrtF a = ((root (a.toNat * 4294967296) : Nat) : Int) := by unfold sqrtF; rw [if_neg c0]
    obtain ⟨A, hA⟩ : ∃ A : Nat, a = (A : Int) := ⟨a.toNat, by omega⟩
    subst hA
    rw [show ((A : Int)).toNat = A by omega] at hv
    obtain ⟨n, hn⟩ : ∃ n, n = A * 4294967296 := ⟨_, rfl⟩
    rw [← hn] at hv
    obtain ⟨hi, hhi⟩ : ∃ q, q = A / 4294967296 := ⟨_, rfl⟩
    obtain ⟨lo, hlo⟩ : ∃ q, q = A * 4294967296 % 18446744073709551616 := ⟨_, rfl⟩
    have hsplit : n = hi * 18446744073709551616 + lo := by rw [hn, hhi, hlo]; exact split_n A
    have hlb : lo < 18446744073709551616 := by omega
    have hnb : n < 79228162514264337593543950336 := by omega
    have e1 : (A : Int) / 4294967296 = (hi : Int) := by rw [hhi]; omega
    have e2 : IntKind.u64.wrap ((A : Int) * 4294967296) = (lo : Int) := by rw [IntKind.wrap_u64, hlo]; omega
    have HV := Lib.hid hv
    have HN := Lib.hid (And.intro hsplit (And.intro hlb hnb))
    have HE := Lib.hid (And.intro e1 e2)
    clear hv hn hhi hlo hsplit hnb e1 e2
    go_enter Try.func46, Try.ntmps46
    go_wp2_with fail
    go_loop [3, 4] (fun vl vh => ∃ l h : Nat, l < h ∧ h ≤ 281474976710656 ∧ vl = .int .i64 (l : Int) ∧ vh = .int .i64 (h : Int) ∧ Hid (l * l ≤ n ∧ n < h * h)) (fun vl vh => (intOf vh - intOf vl).toNat)
    case atStart => exact ⟨0, 281474976710656, by omega, by omega, rfl, rfl, Lib.hid ⟨by omega, by have := HN.out.2.2; simpa using this⟩⟩
    case round =>
      obtain ⟨l, h, hlh, hh, rfl, rfl, HH⟩ := hrel
      by_cases c : 1 < h - l
      · have d0 : decide (1 < (h : Int) - (l : Int)) = true := decide_eq_true (by omega)
        obtain ⟨mid, hmid⟩ : ∃ m, m = (l + h) / 2 := ⟨_, rfl⟩
        have em : ((l : Int) + (h : Int)) / 2 = (mid : Int) := by rw [hmid]; omega
        have hm1 : l < mid := by omega
        have hm2 : mid < h := by omega
        have m1 := product_any mid mid (by omega) (by omega) w
        obtain ⟨X, hX⟩ : ∃ X, X = mid * mid := ⟨_, rfl⟩
        rw [← hX] at m1
        obtain ⟨H, hH⟩ : ∃ H, H = X / 18446744073709551616 := ⟨_, rfl⟩
        obtain ⟨L, hL⟩ : ∃ L, L = X % 18446744073709551616 := ⟨_, rfl⟩
        rw [← hH, ← hL] at m1
        have M1 := Lib.hid m1
        have hlt : L < 18446744073709551616 := by omega
        obtain ⟨e1, e2⟩ := HE.out
        by_cases fits : X ≤ n
        · have HR := Lib.hid (show mid * mid ≤ n ∧ n < h * h from ⟨by rw [← hX]; exact fits, HH.out.2⟩)
          have hc := cmp_sq X n hi lo HN.out.1 hlb fits
          rw [← hH, ← hL] at hc
          clear fits m1 hX hH hL c hmid
          rcases hc with hc | ⟨hc, hc2⟩
          · have d1 : decide (H < hi) = true := decide_eq_true (by omega)
            go_wp2_with fail
            refine M1.out.mono ?_
            rintro e w1 ⟨rfl, rfl⟩
            go_wp2_with fail
            go_round
            case rel => exact ⟨mid, h, hm2, hh, rfl, rfl, HR⟩
            case measure => simp [intOf]; omega
          · have d1 : decide (H < hi) = false := decide_eq_false (by omega)
            have d1' : ¬ H < hi := by omega
            have d2 : ((H : Int) == (hi : Int)) = true := by simp; omega
            have d3 : decide (L ≤ lo) = true := decide_eq_true (by omega)
            clear hc
            go_wp2_with fail
            refine M1.out.mono ?_
            rintro e w1 ⟨rfl, rfl⟩
            go_wp2_with fail
            go_round
            case rel => exact ⟨mid, h, hm2, hh, rfl, rfl, HR⟩
            case measure => simp [intOf]; omega
        · have HR := Lib.hid (show l * l ≤ n ∧ n < mid * mid from ⟨HH.out.1, by rw [← hX]; omega⟩)
          have hc := cmp_sq' X n hi lo HN.out.1 hlb fits
          rw [← hH, ← hL] at hc
          clear fits m1 hX hH hL c hmid
          rcases hc with hc | ⟨hc, hc2⟩
          · have d1 : decide (H < hi) = false := decide_eq_false (by omega)
            have d1' : ¬ H < hi := by omega
            have d2 : ((H : Int) == (hi : Int)) = false := by simp; omega
            clear hc
            go_wp2_with fail
            refine M1.out.mono ?_
            rintro e w1 ⟨rfl, rfl⟩
            go_wp2_with fail
            go_round
            case rel => exact ⟨l, mid, hm1, by omega, rfl, rfl, HR⟩
            case measure => simp [intOf]; omega
          · have d1 : decide (H < hi) = false := decide_eq_false (by omega)
            have d1' : ¬ H < hi := by omega
            have d2 : ((H : Int) == (hi : Int)) = true := by simp; omega
            have d3 : decide (L ≤ lo) = false := decide_eq_false (by omega)
            have d3' : ¬ L ≤ lo := by omega
            clear hc
            go_wp2_with fail
            refine M1.out.mono ?_
            rintro e w1 ⟨rfl, rfl⟩
            go_wp2_with fail
            go_round
            case rel => exact ⟨l, mid, hm1, by omega, rfl, rfl, HR⟩
            case measure => simp [intOf]; omega
      · have d0 : decide (1 < (h : Int) - (l : Int)) = false := decide_eq_false (by omega)
        have HR := Lib.hid (show (l : Int) = sqrtF (A : Int) by
          rw [HV.out, root_eq HN.out.2.2 HH.out.1 (by have := HH.out.2; rw [show h = l + 1 by omega] at this; exact this)])
        clear c
        go_wp2_with fail
        go_ret
        exact ⟨ret_int HR.out, rfl⟩

set_option maxHeartbeats 1000000 in
theorem cos_any (a : Int) (h1 : -9223372036854775808 ≤ a) (h2 : a ≤ 9223372036854775807) (w : World) : Calls Try.prog 43 #[.int .i64 a] w fun e w' => e = .returned (.int .i64 (cosF a)) ∧ w = w' := by
  have b := clamp_in (a + 6746518852)
  have c1 := add_any a 6746518852 h1 h2 (by omega) (by omega) w
  have c2 := sin_any (addF a 6746518852) b.1 b.2 w
  have C1 := Lib.hid c1
  have C2 := Lib.hid c2
  clear c1 c2
  go_enter Try.func43, Try.ntmps43
  go_wp2_with fail
  refine C1.out.mono ?_
  rintro e w1 ⟨rfl, rfl⟩
  go_wp2_with fail
  refine C2.out.mono ?_
  rintro e w1 ⟨rfl, rfl⟩
  go_wp2_with fail
  go_ret
  exact ⟨rfl, rfl⟩

set_option maxHeartbeats 1000000 in
theorem rcos_any (a : Int) (h1 : -9223372036854775808 ≤ a) (h2 : a ≤ 9223372036854775807) (w : World) : Calls Try.prog 47 #[.int .i64 a] w fun e w' => e = .returned (.int .i64 (cosF a)) ∧ w = w' := by
  have b := clamp_in (a + 6746518852)
  have c1 := radd_any a 6746518852 h1 h2 (by omega) (by omega) w
  have c2 := rsin_any (addF a 6746518852) b.1 b.2 w
  have C1 := Lib.hid c1
  have C2 := Lib.hid c2
  clear c1 c2
  go_enter Try.func47, Try.ntmps47
  go_wp2_with fail
  refine C1.out.mono ?_
  rintro e w1 ⟨rfl, rfl⟩
  go_wp2_with fail
  refine C2.out.mono ?_
  rintro e w1 ⟨rfl, rfl⟩
  go_wp2_with fail
  go_ret
  exact ⟨rfl, rfl⟩

end Go.Proofs.Ytnfbeldiideonaa.FixN
