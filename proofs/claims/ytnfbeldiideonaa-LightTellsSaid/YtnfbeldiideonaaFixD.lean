/- The plain arithmetic of a division of 128 bits by 64 (math/bits.Div64: by halves), of a division bit by bit, and of a root by halving its span. No program is named here. -/
import Derived.WalkKit
set_option linter.unusedVariables false
set_option linter.unusedSimpArgs false
namespace Go.Proofs.Ytnfbeldiideonaa.FixD

/-- one half of the division: what the loop's head keeps of the quotient q that it tries and of what is left, r -/
structure Half (yn1 yn0 u un : Nat) (q r : Nat) : Prop where
  sum : q * yn1 + r = u
  up : (u * 4294967296 + un) / (yn1 * 4294967296 + yn0) ≤ q
structure Pre (yn1 yn0 u un : Nat) : Prop where
  h1 : 2147483648 ≤ yn1
  h2 : yn1 < 4294967296
  h3 : yn0 < 4294967296
  h4 : u < yn1 * 4294967296 + yn0
  h5 : un < 4294967296
variable {yn1 yn0 u un q r : Nat}
theorem mulB (a b : Nat) : a * (b * 4294967296) = a * b * 4294967296 := by rw [Nat.mul_assoc]
theorem Half.start (p : Pre yn1 yn0 u un) : Half yn1 yn0 u un (u / yn1) (u % yn1) := by
  obtain ⟨h1, h2, h3, h4, h5⟩ := p
  refine ⟨by rw [Nat.mul_comm]; exact Nat.div_add_mod u yn1, ?_⟩
  rw [Nat.le_div_iff_mul_le (by omega)]
  have hle := Nat.div_mul_le_self (u * 4294967296 + un) (yn1 * 4294967296 + yn0)
  generalize (u * 4294967296 + un) / (yn1 * 4294967296 + yn0) = q' at *
  rw [Nat.mul_add, mulB] at hle
  have : q' * yn1 * 4294967296 < (u + 1) * 4294967296 := by omega
  have := Nat.lt_of_mul_lt_mul_right this
  omega
theorem start_r (p : Pre yn1 yn0 u un) : u % yn1 < 4294967296 := by have := Nat.mod_lt u (show yn1 > 0 by have := p.h1; omega); have := p.h2; omega
theorem start_q (p : Pre yn1 yn0 u un) : u / yn1 ≤ 4294967297 := by
  obtain ⟨h1, h2, h3, h4, h5⟩ := p
  have : u / yn1 < 4294967298 := by
    rw [Nat.div_lt_iff_lt_mul (by omega)]
    omega
  omega
theorem quo_lt (p : Pre yn1 yn0 u un) : (u * 4294967296 + un) / (yn1 * 4294967296 + yn0) < 4294967296 := by
  obtain ⟨h1, h2, h3, h4, h5⟩ := p
  rw [Nat.div_lt_iff_lt_mul (by omega)]
  omega
theorem Half.over (p : Pre yn1 yn0 u un) (h : Half yn1 yn0 u un q r) (hc : 4294967296 ≤ q ∨ 4294967296 * r + un < q * yn0) : (u * 4294967296 + un) / (yn1 * 4294967296 + yn0) < q := by
  rcases hc with hc | hc
  · have := quo_lt p; omega
  · have hs := h.sum
    rw [Nat.div_lt_iff_lt_mul (by have := p.h1; omega)]
    rw [Nat.mul_add, mulB]
    have : (q * yn1 + r) * 4294967296 = u * 4294967296 := by rw [hs]
    rw [Nat.add_mul] at this
    omega
theorem Half.pos (p : Pre yn1 yn0 u un) (h : Half yn1 yn0 u un q r) (hc : 4294967296 ≤ q ∨ 4294967296 * r + un < q * yn0) : 1 ≤ q := Nat.succ_le_of_lt (Nat.lt_of_le_of_lt (Nat.zero_le _) (h.over p hc))
theorem Half.next (p : Pre yn1 yn0 u un) (h : Half yn1 yn0 u un q r) (hc : 4294967296 ≤ q ∨ 4294967296 * r + un < q * yn0) : Half yn1 yn0 u un (q - 1) (r + yn1) := by
  have ho := h.over p hc
  have hs := h.sum
  refine ⟨?_, Nat.le_sub_one_of_lt ho⟩
  have hp := h.pos p hc
  clear ho
  obtain ⟨t, rfl⟩ : ∃ t, q = t + 1 := ⟨q - 1, by omega⟩
  rw [Nat.add_mul] at hs
  simp only [Nat.add_sub_cancel]
  omega
theorem Half.done (p : Pre yn1 yn0 u un) (h : Half yn1 yn0 u un q r) (hc : q * yn0 ≤ 4294967296 * r + un) : q = (u * 4294967296 + un) / (yn1 * 4294967296 + yn0) := by
  refine Nat.le_antisymm ?_ h.up
  have hs := h.sum
  rw [Nat.le_div_iff_mul_le (by have := p.h1; omega)]
  rw [Nat.mul_add, mulB]
  have : (q * yn1 + r) * 4294967296 = u * 4294967296 := by rw [hs]
  rw [Nat.add_mul] at this
  omega
theorem Half.broke (p : Pre yn1 yn0 u un) (h : Half yn1 yn0 u un q r) (hq : q ≤ 4294967296) (hr : 4294967296 ≤ r) : q = (u * 4294967296 + un) / (yn1 * 4294967296 + yn0) := by
  refine h.done p ?_
  have h3 := p.h3
  have : q * yn0 ≤ 4294967296 * 4294967295 := Nat.mul_le_mul hq (by omega)
  omega
theorem q_yn0 (p : Pre yn1 yn0 u un) (hq : q ≤ 4294967297) : q * yn0 ≤ 18446744073709551615 := by
  have h3 := p.h3
  have : q * yn0 ≤ 4294967297 * 4294967295 := Nat.mul_le_mul hq (by omega)
  omega
/-- what is left behind a half -/
theorem left_eq (p : Pre yn1 yn0 u un) (hq : q = (u * 4294967296 + un) / (yn1 * 4294967296 + yn0)) : u * 4294967296 + un = q * (yn1 * 4294967296 + yn0) + (u * 4294967296 + un) % (yn1 * 4294967296 + yn0) := by
  rw [hq]; exact (Nat.div_add_mod' _ _).symm
theorem left_lt (p : Pre yn1 yn0 u un) : (u * 4294967296 + un) % (yn1 * 4294967296 + yn0) < yn1 * 4294967296 + yn0 := Nat.mod_lt _ (by have := p.h1; omega)

/-- both halves together -/
theorem whole_gen (y X B b : Nat) (hy : 0 < y) : (X * B + b) / y = X / y * B + (X % y * B + b) / y ∧ (X * B + b) % y = (X % y * B + b) % y := by
  have e2 : X * B + b = y * (X / y * B) + (X % y * B + b) := by
    have e := Nat.div_add_mod X y
    calc X * B + b = (y * (X / y) + X % y) * B + b := by rw [e]
      _ = _ := by rw [Nat.add_mul, Nat.mul_assoc, Nat.add_assoc]
  refine ⟨?_, ?_⟩
  · conv => lhs; rw [e2]
    rw [Nat.mul_add_div hy]
  · conv => lhs; rw [e2]
    rw [Nat.mul_add_mod]
theorem whole_quo (y u a b : Nat) (hy : 0 < y) : ((u * 4294967296 + a) * 4294967296 + b) / y = (u * 4294967296 + a) / y * 4294967296 + ((u * 4294967296 + a) % y * 4294967296 + b) / y ∧
    ((u * 4294967296 + a) * 4294967296 + b) % y = ((u * 4294967296 + a) % y * 4294967296 + b) % y := whole_gen y (u * 4294967296 + a) 4294967296 b hy
/-- turned up by s bits -/
theorem shl_two (hi lo s : Nat) (hs : s < 64) : (hi * 2 ^ s + lo / 2 ^ (64 - s)) * 18446744073709551616 + lo * 2 ^ s % 18446744073709551616 = (hi * 18446744073709551616 + lo) * 2 ^ s := by
  have e : lo * 2 ^ s / 18446744073709551616 = lo / 2 ^ (64 - s) := by
    rw [show (18446744073709551616 : Nat) = 2 ^ (64 - s) * 2 ^ s by rw [← Nat.pow_add, show 64 - s + s = 64 by omega]]
    exact Nat.mul_div_mul_right _ _ (Nat.two_pow_pos s)
  have h := Nat.div_add_mod (lo * 2 ^ s) 18446744073709551616
  rw [e] at h
  rw [Nat.add_mul, Nat.add_mul, Nat.add_assoc, Nat.mul_comm (lo / 2 ^ (64 - s)), h]
  rw [Nat.mul_assoc, Nat.mul_assoc, Nat.mul_comm (2 ^ s)]
theorem shl_quo (N y s : Nat) : N * 2 ^ s / (y * 2 ^ s) = N / y := Nat.mul_div_mul_right _ _ (Nat.two_pow_pos s)
theorem shl_rem (N y s : Nat) : N * 2 ^ s % (y * 2 ^ s) / 2 ^ s = N % y := by
  rw [Nat.mul_mod_mul_right, Nat.mul_div_cancel _ (Nat.two_pow_pos s)]
theorem shl_below (hi lo y s : Nat) (hs : s < 64) (h : hi < y) (hl : lo < 18446744073709551616) : hi * 2 ^ s + lo / 2 ^ (64 - s) < y * 2 ^ s := by
  have h1 : lo / 2 ^ (64 - s) < 2 ^ s := by
    rw [Nat.div_lt_iff_lt_mul (Nat.two_pow_pos _), ← Nat.pow_add, show s + (64 - s) = 64 by omega]; exact hl
  have h2 : (hi + 1) * 2 ^ s ≤ y * 2 ^ s := Nat.mul_le_mul_right _ h
  rw [Nat.add_mul, Nat.one_mul] at h2
  omega

/-! ### one bit more -/
/-- X's bits from i on, divided: the next bit -/
theorem bit_step (Y y : Nat) (b : Nat) (hb : b ≤ 1) (hy : 0 < y) : (2 * Y + b) / y = 2 * (Y / y) + (if y ≤ 2 * (Y % y) + b then 1 else 0) ∧ (2 * Y + b) % y = (if y ≤ 2 * (Y % y) + b then 2 * (Y % y) + b - y else 2 * (Y % y) + b) := by
  have e := Nat.div_add_mod Y y
  have hm := Nat.mod_lt Y hy
  generalize Y / y = q at *
  generalize Y % y = r at *
  subst e
  have e2 : 2 * (y * q + r) + b = y * (2 * q) + (2 * r + b) := by rw [Nat.mul_add, Nat.mul_left_comm]; omega
  rw [e2, Nat.mul_add_div hy, Nat.mul_add_mod]
  split
  · rename_i h
    have h3 : 2 * r + b = y * 1 + (2 * r + b - y) := by omega
    have h4 : 2 * r + b - y < y := by omega
    refine ⟨?_, ?_⟩
    · rw [h3, Nat.mul_add_div hy, Nat.div_eq_of_lt h4]
    · rw [h3, Nat.mul_add_mod, Nat.mod_eq_of_lt h4, ← h3]
  · rename_i h
    refine ⟨?_, ?_⟩
    · rw [Nat.div_eq_of_lt (by omega)]
    · rw [Nat.mod_eq_of_lt (by omega)]
/-- the bits from i on: those from i + 1 on, and bit i -/
theorem shr_step (X i : Nat) : X / 2 ^ i = 2 * (X / 2 ^ (i + 1)) + X / 2 ^ i % 2 := by
  rw [Nat.pow_succ, ← Nat.div_div_eq_div_mul]; omega
end Go.Proofs.Ytnfbeldiideonaa.FixD
