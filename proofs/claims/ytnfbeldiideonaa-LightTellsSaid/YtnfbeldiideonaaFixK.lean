/- The walk of layer 1's reference: quotients, bit by bit. -/
import Derived.Test.YtnfbeldiideonaaFixS
import Derived.Test.YtnfbeldiideonaaFixD
set_option linter.unusedVariables false
set_option linter.unusedSimpArgs false
namespace Go.Proofs.Ytnfbeldiideonaa.FixK
open Go.RowKit FixM FixD Base Num FixW FixV FixU FixT FixS

/-- what stands behind the bits down to k -/
structure At (X y k hi lo r : Nat) : Prop where
  q : X / 2 ^ k / y = hi * 18446744073709551616 + lo
  l : lo < 18446744073709551616
  r : X / 2 ^ k % y = r
theorem At.start (X y : Nat) (hX : X < 79228162514264337593543950336) : At X y 96 0 0 0 := by
  have : X / 2 ^ 96 = 0 := Nat.div_eq_of_lt (by simpa using hX)
  exact ⟨by rw [this]; simp, by decide, by rw [this]; simp⟩
theorem At.lt {X y k hi lo r : Nat} (h : At X y k hi lo r) (hy : 0 < y) : r < y := by rw [← h.r]; exact Nat.mod_lt _ hy
theorem At.hi_le {X y k hi lo r : Nat} (h : At X y k hi lo r) (hX : X < 79228162514264337593543950336) : hi < 4294967296 := by
  have h1 : X / 2 ^ k / y ≤ X := Nat.le_trans (Nat.div_le_self _ _) (Nat.div_le_self _ _)
  rw [h.q] at h1
  have := h.l
  omega
theorem At.yes {X y j hi lo r b : Nat} (h : At X y (j + 1) hi lo r) (hy : 0 < y) (hb : X / 2 ^ j % 2 = b) (hc : y ≤ 2 * r + b) :
    At X y j (2 * hi + lo / 9223372036854775808) (2 * lo % 18446744073709551616 + 1) (2 * r + b - y) := by
  have hb1 : b ≤ 1 := by omega
  obtain ⟨e1, e2⟩ := bit_step (X / 2 ^ (j + 1)) y b hb1 hy
  rw [h.r, if_pos hc] at e1 e2
  have hs := shr_step X j
  rw [hb] at hs
  rw [← hs] at e1 e2
  have hl := h.l
  rw [h.q] at e1
  exact ⟨by rw [e1]; omega, by omega, e2⟩
theorem At.no {X y j hi lo r b : Nat} (h : At X y (j + 1) hi lo r) (hy : 0 < y) (hb : X / 2 ^ j % 2 = b) (hc : ¬ y ≤ 2 * r + b) :
    At X y j (2 * hi + lo / 9223372036854775808) (2 * lo % 18446744073709551616) (2 * r + b) := by
  have hb1 : b ≤ 1 := by omega
  obtain ⟨e1, e2⟩ := bit_step (X / 2 ^ (j + 1)) y b hb1 hy
  rw [h.r, if_neg hc] at e1 e2
  have hs := shr_step X j
  rw [hb] at hs
  rw [← hs] at e1 e2
  have hl := h.l
  rw [h.q] at e1
  exact ⟨by rw [e1]; omega, by omega, e2⟩
theorem bit_hi (x j : Nat) (h : 32 ≤ j) : x * 4294967296 / 2 ^ j % 2 = x / 2 ^ (j - 32) % 2 := by
  have e : 2 ^ j = 2 ^ (j - 32) * 4294967296 := by rw [show (4294967296 : Nat) = 2 ^ 32 from rfl, ← Nat.pow_add, show j - 32 + 32 = j by omega]
  rw [e, Nat.mul_div_mul_right _ _ (by decide)]
theorem bit_lo (x j : Nat) (h : j < 32) : x * 4294967296 / 2 ^ j % 2 = 0 := by
  have e : x * 4294967296 = x * 2 ^ (32 - j) * 2 ^ j := by rw [Nat.mul_assoc, ← Nat.pow_add, show 32 - j + j = 32 by omega]
  have e2 : 2 ^ (32 - j) = 2 * 2 ^ (31 - j) := by rw [show 32 - j = 31 - j + 1 by omega, Nat.pow_succ]; omega
  rw [e, Nat.mul_div_cancel _ (Nat.two_pow_pos j), e2, Nat.mul_left_comm]
  omega
theorem and_one (x : Nat) (hx : x < 18446744073709551616) : bits .and .u64 (x : Int) 1 = ((x % 2 : Nat) : Int) := by
  have h := bits_and_u64_nat x 1 hx (by omega)
  have e : x &&& 1 = x % 2 := Nat.and_two_pow_sub_one_eq_mod x 1
  rw [e] at h
  exact h
set_option maxRecDepth 100000 in
set_option maxHeartbeats 4000000 in
theorem rdiv_any (a b : Int) (ha1 : -9223372036854775808 ≤ a) (ha2 : a ≤ 9223372036854775807) (hb1 : -9223372036854775808 ≤ b) (hb2 : b ≤ 9223372036854775807) (w : World) : Calls Try.prog 35 #[.int .i64 a, .int .i64 b] w fun e w' => e = .returned (.int .i64 (divF a b)) ∧ w = w' := by
  by_cases h0 : b = 0
  · subst h0
    by_cases c1 : 0 < a
    · have HV := Lib.hid (show divF a 0 = 9223372036854775807 by unfold divF; rw [if_pos rfl, if_pos c1])
      have a0 : (a == 0) = false := by simp; omega
      go_enter Try.func35, Try.ntmps35
      go_wp2_with fail
      go_ret
      exact ⟨ret_int HV.out.symm, rfl⟩
    · by_cases c2 : a < 0
      · have HV := Lib.hid (show divF a 0 = -9223372036854775808 by unfold divF; rw [if_pos rfl, if_neg c1, if_pos c2])
        have a0 : (a == 0) = false := by simp; omega
        go_enter Try.func35, Try.ntmps35
        go_wp2_with fail
        go_ret
        exact ⟨ret_int HV.out.symm, rfl⟩
      · have HV := Lib.hid (show divF a 0 = 0 by unfold divF; rw [if_pos rfl, if_neg c1, if_neg c2])
        have a0 : (a == 0) = true := by simp; omega
        go_enter Try.func35, Try.ntmps35
        go_wp2_with fail
        go_ret
        exact ⟨ret_int HV.out.symm, rfl⟩
  · have ht := divF_told a b h0
    have b0 : (b == 0) = false := by simpa using h0
    have sa := rsize_any a ha1 ha2
    have sb := rsize_any b hb1 hb2
    have hA : a.natAbs ≤ 9223372036854775808 := by omega
    have hB : 1 ≤ b.natAbs := by omega
    have hB2 : b.natAbs ≤ 9223372036854775808 := by omega
    generalize a.natAbs = x at *
    generalize b.natAbs = y at *
    obtain ⟨X, hX⟩ : ∃ X, X = x * 4294967296 := ⟨_, rfl⟩
    rw [← hX] at ht
    have hXb : X < 79228162514264337593543950336 := by omega
    have T := Lib.hid ht
    have SA := Lib.hid sa
    have SB := Lib.hid sb
    have HX := Lib.hid (And.intro hX hXb)
    have HS := Lib.hid (show (!(decide (a < 0) == decide (b < 0))) = !(sameB a b) from rfl)
    clear h0 ht sa sb hX hXb
    go_enter Try.func35, Try.ntmps35
    go_wp2_with fail
    refine (SA.out _).mono ?_
    rintro e w1 ⟨rfl, rfl⟩
    go_wp2_with fail
    refine (SB.out _).mono ?_
    rintro e w1 ⟨rfl, rfl⟩
    go_wp2_with fail
    go_loop [7, 8, 9, 10] (fun vh vl vr vi => ∃ k hi lo r : Nat, k ≤ 96 ∧ vh = .int .u64 (hi : Int) ∧ vl = .int .u64 (lo : Int) ∧ vr = .int .u64 (r : Int) ∧ vi = .int .i64 ((k : Int) - 1) ∧ Hid (At X y k hi lo r)) (fun _ _ _ vi => (intOf vi + 1).toNat)
    case atStart => exact ⟨96, 0, 0, 0, by omega, rfl, rfl, rfl, rfl, Lib.hid (At.start X y HX.out.2)⟩
    case round =>
      obtain ⟨k, hi, lo, r, hk, rfl, rfl, rfl, rfl, HH⟩ := hrel
      have hlo := HH.out.l
      have hrl := HH.out.lt (by omega)
      have hhi := HH.out.hi_le HX.out.2
      cases k with
      | zero =>
        have hq := HH.out.q
        have hr := HH.out.r
        simp only [Nat.pow_zero, Nat.div_one] at hq hr
        have i1 := in_any hi lo (!(sameB a b)) (decide (X % y ≠ 0)) (by omega) hlo w
        have e1 : X / y / 18446744073709551616 = hi := by omega
        have e2 : X / y % 18446744073709551616 = lo := by omega
        have ht := T.out
        rw [e1, e2] at ht
        rw [Bool.not_not, ht, hr] at i1
        have e3 : decide (r ≠ 0) = decide (0 < r) := by rw [decide_eq_decide]; omega
        rw [e3] at i1
        have I1 := Lib.hid i1
        clear hq hr i1 e1 e2 e3 ht
        go_wp2_with fail
        rw [HS.out]
        refine I1.out.mono ?_
        rintro e w1 ⟨rfl, rfl⟩
        go_wp2_with fail
        go_ret
        exact ⟨rfl, rfl⟩
      | succ j =>
        simp only [show ((j + 1 : Nat) : Int) - 1 = (j : Int) by omega]
        obtain ⟨b', hb'⟩ : ∃ q, X / 2 ^ j % 2 = q := ⟨_, rfl⟩
        have hbl : b' ≤ 1 := by omega
        by_cases c32 : 32 ≤ j
        · have eb : bits .and .u64 ((x : Int) / 2 ^ (j - 32)) 1 = (b' : Int) := by
            rw [show (x : Int) / 2 ^ (j - 32) = ((x / 2 ^ (j - 32) : Nat) : Int) by simp, and_one _ (by have := Nat.div_le_self x (2 ^ (j - 32)); omega), ← bit_hi x j c32, ← HX.out.1, hb']
          by_cases c : y ≤ 2 * r + b'
          · have HN := Lib.hid (HH.out.yes (by omega) hb' c)
            clear hb'
            go_wp2_with fail
            go_round
            case rel => exact ⟨j, 2 * hi + lo / 9223372036854775808, 2 * lo % 18446744073709551616 + 1, 2 * r + b' - y, by omega, congrArg (Value.int .u64) (by omega), congrArg (Value.int .u64) (by simp only [IntKind.wrap_u64]; omega), congrArg (Value.int .u64) (by omega), rfl, HN⟩
            case measure => simp [intOf] <;> omega
          · have HN := Lib.hid (HH.out.no (by omega) hb' c)
            clear hb'
            go_wp2_with fail
            go_round
            case rel => exact ⟨j, 2 * hi + lo / 9223372036854775808, 2 * lo % 18446744073709551616, 2 * r + b', by omega, congrArg (Value.int .u64) (by omega), congrArg (Value.int .u64) (by simp only [IntKind.wrap_u64]; omega), congrArg (Value.int .u64) (by omega), rfl, HN⟩
            case measure => simp [intOf] <;> omega
        · have e0 : b' = 0 := by rw [← hb', HX.out.1]; exact bit_lo x j (by omega)
          subst e0
          by_cases c : y ≤ 2 * r
          · have HN := Lib.hid (HH.out.yes (by omega) hb' (by omega))
            clear hb'
            go_wp2_with fail
            go_round
            case rel => exact ⟨j, 2 * hi + lo / 9223372036854775808, 2 * lo % 18446744073709551616 + 1, 2 * r + 0 - y, by omega, congrArg (Value.int .u64) (by omega), congrArg (Value.int .u64) (by simp only [IntKind.wrap_u64]; omega), congrArg (Value.int .u64) (by omega), rfl, HN⟩
            case measure => simp [intOf] <;> omega
          · have HN := Lib.hid (HH.out.no (by omega) hb' (by omega))
            clear hb'
            go_wp2_with fail
            go_round
            case rel => exact ⟨j, 2 * hi + lo / 9223372036854775808, 2 * lo % 18446744073709551616, 2 * r + 0, by omega, congrArg (Value.int .u64) (by omega), congrArg (Value.int .u64) (by simp only [IntKind.wrap_u64]; omega), congrArg (Value.int .u64) (by omega), rfl, HN⟩
            case measure => simp [intOf] <;> omega
end Go.Proofs.Ytnfbeldiideonaa.FixK

