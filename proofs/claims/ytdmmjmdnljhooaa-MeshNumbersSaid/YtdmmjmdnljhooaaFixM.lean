/- The numbers of layer 1 (fix) as plain arithmetic over the integers: sums, products, quotients and roots that are brought in, and sines. No program is named here. -/
import Derived.WalkKit
set_option linter.unusedVariables false
set_option linter.unusedSimpArgs false
namespace Go.Proofs.Ytdmmjmdnljhooaa.FixM

/-- brought in: a 64-bit number -/
def clamp (x : Int) : Int := if x < -9223372036854775808 then -9223372036854775808 else if 9223372036854775807 < x then 9223372036854775807 else x
def In (x : Int) : Prop := -9223372036854775808 ≤ x ∧ x ≤ 9223372036854775807
theorem clamp_in (x : Int) : In (clamp x) := by unfold clamp In; split <;> (try split) <;> omega
theorem clamp_lo (x : Int) : -9223372036854775808 ≤ clamp x := (clamp_in x).1
theorem clamp_hi (x : Int) : clamp x ≤ 9223372036854775807 := (clamp_in x).2
theorem clamp_id {x : Int} (h1 : -9223372036854775808 ≤ x) (h2 : x ≤ 9223372036854775807) : clamp x = x := by unfold clamp; split <;> (try split) <;> omega
theorem clamp_mono {x y : Int} (h : x ≤ y) : clamp x ≤ clamp y := by unfold clamp; split <;> (try split) <;> (try split) <;> (try split) <;> omega
theorem clamp_neg_mono {x y : Int} (h : x ≤ y) : clamp (-y) ≤ clamp (-x) := clamp_mono (by omega)

def addF (a b : Int) : Int := clamp (a + b)
def subF (a b : Int) : Int := clamp (a - b)
def negF (a : Int) : Int := clamp (-a)
def ofF (n : Int) : Int := clamp (n * 4294967296)
def floorF (x : Int) : Int := x / 4294967296
def mulF (a b : Int) : Int := clamp (a * b / 4294967296)
def divF (a b : Int) : Int :=
  if b = 0 then (if 0 < a then 9223372036854775807 else if a < 0 then -9223372036854775808 else 0)
  else if 0 < b then clamp (a * 4294967296 / b) else clamp (-(a * 4294967296) / -b)

/-- of sizes and signs: what lies above, the rest, whether something is left -/
def told (same : Bool) (hi lo : Nat) (rest : Bool) : Int :=
  if same then (if hi ≠ 0 ∨ 9223372036854775807 < lo then 9223372036854775807 else (lo : Int))
  else (if hi ≠ 0 ∨ 9223372036854775807 < lo then -9223372036854775808 else -(lo : Int) - (if rest then 1 else 0))
theorem told_clamp (same : Bool) (P : Nat) (rest : Bool) : told same (P / 18446744073709551616) (P % 18446744073709551616) rest = clamp (if same then (P : Int) else -(P : Int) - (if rest then 1 else 0)) := by
  unfold told clamp
  cases same <;> cases rest <;> simp only [if_true, if_false, Bool.false_eq_true] <;> (repeat' split) <;> omega
/-- is a below 0 just if b is? -/
def sameB (a b : Int) : Bool := decide (a < 0) == decide (b < 0)
theorem natAbs_mul_same {a b : Int} (h : sameB a b = true) : a * b = ((a.natAbs * b.natAbs : Nat) : Int) := by
  unfold sameB at h
  rw [beq_iff_eq, decide_eq_decide] at h
  by_cases ha : a < 0
  · have hb := h.1 ha
    obtain ⟨x, rfl⟩ : ∃ x : Nat, a = -(x : Int) := ⟨a.natAbs, by omega⟩
    obtain ⟨y, rfl⟩ : ∃ y : Nat, b = -(y : Int) := ⟨b.natAbs, by omega⟩
    rw [Int.neg_mul_neg]; simp
  · have hb : ¬ b < 0 := fun h' => ha (h.2 h')
    obtain ⟨x, rfl⟩ : ∃ x : Nat, a = (x : Int) := ⟨a.natAbs, by omega⟩
    obtain ⟨y, rfl⟩ : ∃ y : Nat, b = (y : Int) := ⟨b.natAbs, by omega⟩
    simp
theorem natAbs_mul_diff {a b : Int} (h : sameB a b = false) : a * b = -((a.natAbs * b.natAbs : Nat) : Int) := by
  unfold sameB at h
  rw [beq_eq_false_iff_ne, ne_eq, decide_eq_decide] at h
  by_cases ha : a < 0
  · have hb : ¬ b < 0 := fun h' => h ⟨fun _ => h', fun _ => ha⟩
    obtain ⟨x, rfl⟩ : ∃ x : Nat, a = -(x : Int) := ⟨a.natAbs, by omega⟩
    obtain ⟨y, rfl⟩ : ∃ y : Nat, b = (y : Int) := ⟨b.natAbs, by omega⟩
    simp [Int.neg_mul]
  · have hb : b < 0 := by
      rcases Int.lt_or_le b 0 with h' | h'
      · exact h'
      · exact absurd ⟨fun h1 => absurd h1 ha, fun h1 => by omega⟩ h
    obtain ⟨x, rfl⟩ : ∃ x : Nat, a = (x : Int) := ⟨a.natAbs, by omega⟩
    obtain ⟨y, rfl⟩ : ∃ y : Nat, b = -(y : Int) := ⟨b.natAbs, by omega⟩
    simp [Int.mul_neg]
theorem mulF_told (a b : Int) : told (sameB a b) (a.natAbs * b.natAbs / 4294967296 / 18446744073709551616) (a.natAbs * b.natAbs / 4294967296 % 18446744073709551616) (decide (a.natAbs * b.natAbs % 4294967296 ≠ 0)) = mulF a b := by
  rw [told_clamp]
  unfold mulF
  congr 1
  cases h : sameB a b
  · rw [natAbs_mul_diff h]
    simp only [Bool.false_eq_true, if_false, decide_eq_true_eq]
    generalize a.natAbs * b.natAbs = X
    split <;> omega
  · rw [natAbs_mul_same h]
    simp only [if_true]
    omega
theorem divF_told (a b : Int) (hb : b ≠ 0) : told (sameB a b) (a.natAbs * 4294967296 / b.natAbs / 18446744073709551616) (a.natAbs * 4294967296 / b.natAbs % 18446744073709551616) (decide (a.natAbs * 4294967296 % b.natAbs ≠ 0)) = divF a b := by
  rw [told_clamp]
  unfold divF
  rw [if_neg hb]
  have floor_neg : ∀ (X y : Nat), 0 < y → -(X : Int) / (y : Int) = -((X / y : Nat) : Int) - (if X % y ≠ 0 then 1 else 0) := by
    intro X y hy
    have e := Nat.div_add_mod X y
    have hm := Nat.mod_lt X hy
    have e2 : (X : Int) = (y : Int) * ((X / y : Nat) : Int) + ((X % y : Nat) : Int) := by exact_mod_cast e.symm
    by_cases h0 : X % y = 0
    · simp only [h0, ne_eq, not_true, if_false]
      rw [e2, h0]
      rw [show -((y : Int) * ((X / y : Nat) : Int) + ((0 : Nat) : Int)) = (y : Int) * (-((X / y : Nat) : Int)) by rw [Int.mul_neg]; simp]
      rw [Int.mul_ediv_cancel_left _ (by omega)]
      omega
    · simp only [ne_eq, h0, not_false_eq_true, if_true]
      rw [e2]
      rw [show -((y : Int) * ((X / y : Nat) : Int) + ((X % y : Nat) : Int)) = (y : Int) - ((X % y : Nat) : Int) + (-((X / y : Nat) : Int) - 1) * (y : Int) by rw [Int.sub_mul, Int.neg_mul, Int.mul_comm ((X / y : Nat) : Int)]; omega]
      rw [Int.add_mul_ediv_right _ _ (by omega)]
      rw [Int.ediv_eq_zero_of_lt (by omega) (by omega)]
      omega
  by_cases hpos : 0 < b
  · rw [if_pos hpos]
    congr 1
    obtain ⟨y, rfl⟩ : ∃ y : Nat, b = (y : Int) := ⟨b.natAbs, by omega⟩
    have hy : 0 < y := by omega
    by_cases ha : a < 0
    · have hs : sameB a (y : Int) = false := by unfold sameB; rw [decide_eq_true ha, decide_eq_false (by omega)]; rfl
      rw [hs]
      obtain ⟨x, rfl⟩ : ∃ x : Nat, a = -(x : Int) := ⟨a.natAbs, by omega⟩
      have := floor_neg (x * 4294967296) y hy
      simp only [Int.natAbs_neg, Int.natAbs_natCast, Bool.false_eq_true, if_false, decide_eq_true_eq]
      rw [← this]
      simp [Int.neg_mul]
    · have hs : sameB a (y : Int) = true := by unfold sameB; rw [decide_eq_false ha, decide_eq_false (by omega)]; rfl
      rw [hs]
      obtain ⟨x, rfl⟩ : ∃ x : Nat, a = (x : Int) := ⟨a.natAbs, by omega⟩
      simp
  · rw [if_neg hpos]
    congr 1
    obtain ⟨y, rfl⟩ : ∃ y : Nat, b = -(y : Int) := ⟨b.natAbs, by omega⟩
    have hy : 0 < y := by omega
    by_cases ha : a < 0
    · have hs : sameB a (-(y : Int)) = true := by unfold sameB; rw [decide_eq_true ha, decide_eq_true (by omega)]; rfl
      rw [hs]
      obtain ⟨x, rfl⟩ : ∃ x : Nat, a = -(x : Int) := ⟨a.natAbs, by omega⟩
      simp [Int.neg_mul]
    · have hs : sameB a (-(y : Int)) = false := by unfold sameB; rw [decide_eq_false ha, decide_eq_true (by omega)]; rfl
      rw [hs]
      obtain ⟨x, rfl⟩ : ∃ x : Nat, a = (x : Int) := ⟨a.natAbs, by omega⟩
      have := floor_neg (x * 4294967296) y hy
      simp only [Int.natAbs_neg, Int.natAbs_natCast, Bool.false_eq_true, if_false, decide_eq_true_eq]
      rw [← this]
      simp

/-! ### roots, bit by bit -/
theorem lt_of_sq {a b : Nat} (h : a * a < b * b) : a < b := by
  rcases Nat.lt_or_ge a b with h' | h'
  · exact h'
  · exact absurd (Nat.mul_le_mul h' h') (by omega)
def rootB (n : Nat) : Nat → Nat → Nat
  | 0, r => r
  | k + 1, r => if (r + 2 ^ k) * (r + 2 ^ k) ≤ n then rootB n k (r + 2 ^ k) else rootB n k r
theorem rootB_spec (n : Nat) : ∀ (k r : Nat), r * r ≤ n → n < (r + 2 ^ k) * (r + 2 ^ k) → rootB n k r * rootB n k r ≤ n ∧ n < (rootB n k r + 1) * (rootB n k r + 1) := by
  intro k
  induction k with
  | zero => intro r h1 h2; exact ⟨h1, by simpa [rootB] using h2⟩
  | succ k ih =>
    intro r h1 h2
    unfold rootB
    split
    · rename_i h; exact ih _ h (by rw [show r + 2 ^ k + 2 ^ k = r + 2 ^ (k + 1) by rw [Nat.pow_succ]; omega]; exact h2)
    · rename_i h; exact ih _ h1 (by omega)
theorem rootB_unique {n r s : Nat} (h1 : r * r ≤ n) (h2 : n < (r + 1) * (r + 1)) (h3 : s * s ≤ n) (h4 : n < (s + 1) * (s + 1)) : r = s := by
  have a : r < s + 1 := lt_of_sq (Nat.lt_of_le_of_lt h1 h4)
  have b : s < r + 1 := lt_of_sq (Nat.lt_of_le_of_lt h3 h2)
  omega
def root (n : Nat) : Nat := rootB n 48 0
theorem root_spec (n : Nat) (h : n < 79228162514264337593543950336) : root n * root n ≤ n ∧ n < (root n + 1) * (root n + 1) :=
  rootB_spec n 48 0 (by omega) (by simpa using h)
theorem root_eq {n r : Nat} (h : n < 79228162514264337593543950336) (h1 : r * r ≤ n) (h2 : n < (r + 1) * (r + 1)) : root n = r :=
  rootB_unique (root_spec n h).1 (root_spec n h).2 h1 h2
theorem root_lt (n : Nat) (h : n < 79228162514264337593543950336) : root n < 281474976710656 := by
  have := (root_spec n h).1
  exact lt_of_sq (Nat.lt_of_le_of_lt this (by simpa using h))
def sqrtF (a : Int) : Int := if a < 1 then 0 else ((root (a.toNat * 4294967296) : Nat) : Int)
theorem sqrtF_spec {a : Int} (h : 1 ≤ a) (h2 : a ≤ 9223372036854775807) : ∃ r : Nat, sqrtF a = (r : Int) ∧ r < 281474976710656 ∧ r * r ≤ a.toNat * 4294967296 ∧ a.toNat * 4294967296 < (r + 1) * (r + 1) := by
  have hlt : a.toNat * 4294967296 < 79228162514264337593543950336 := by omega
  refine ⟨root (a.toNat * 4294967296), by unfold sqrtF; rw [if_neg (by omega)], root_lt _ hlt, root_spec _ hlt⟩
theorem sqrtF_in (a : Int) (h2 : a ≤ 9223372036854775807) : 0 ≤ sqrtF a ∧ sqrtF a < 281474976710656 := by
  by_cases h : a < 1
  · unfold sqrtF; rw [if_pos h]; omega
  · obtain ⟨r, e, h, _⟩ := sqrtF_spec (by omega) h2; rw [e]; omega

theorem rootB_fit (n j r : Nat) (h : (r + 2 ^ j) * (r + 2 ^ j) ≤ n) : rootB n (j + 1) r = rootB n j (r + 2 ^ j) := by
  show (if (r + 2 ^ j) * (r + 2 ^ j) ≤ n then rootB n j (r + 2 ^ j) else rootB n j r) = _
  rw [if_pos h]
theorem rootB_skip (n j r : Nat) (h : ¬ (r + 2 ^ j) * (r + 2 ^ j) ≤ n) : rootB n (j + 1) r = rootB n j r := by
  show (if (r + 2 ^ j) * (r + 2 ^ j) ≤ n then rootB n j (r + 2 ^ j) else rootB n j r) = _
  rw [if_neg h]
theorem rootB_zero (n r : Nat) : rootB n 0 r = r := rfl
theorem rootB_start (n : Nat) : rootB n 48 0 = root n := rfl
theorem split_n (A : Nat) : A * 4294967296 = A / 4294967296 * 18446744073709551616 + A * 4294967296 % 18446744073709551616 := by omega
attribute [irreducible] rootB root

/-! ### sines -/
/-- within half a turn -/
def fold1 (a : Int) : Int := if 13493037704 < a % 26986075409 then a % 26986075409 - 26986075409 else a % 26986075409
/-- within a quarter -/
def fold2 (a : Int) : Int := if 6746518852 < fold1 a then 13493037704 - fold1 a else if fold1 a < -6746518852 then -13493037704 - fold1 a else fold1 a
theorem fold1_in (a : Int) : -13493037704 ≤ fold1 a ∧ fold1 a ≤ 13493037704 := by unfold fold1; split <;> omega
theorem fold2_in (a : Int) : -6746518852 ≤ fold2 a ∧ fold2 a ≤ 6746518852 := by
  have := fold1_in a
  unfold fold2; split <;> (try split) <;> omega
def sinS (q s k : Int) : Int := 4294967296 - mulF q s / k
def sinQ (r : Int) : Int := mulF r r
def sin0 (r : Int) : Int := 4294967296 - sinQ r / 72
def sin1 (r : Int) : Int := 4294967296 - mulF (sinQ r) (sin0 r) / 42
def sin2 (r : Int) : Int := 4294967296 - mulF (sinQ r) (sin1 r) / 20
def sin3 (r : Int) : Int := 4294967296 - mulF (sinQ r) (sin2 r) / 6
def sin4 (r : Int) : Int := mulF r (sin3 r)
def cut1 (x : Int) : Int := if x < -4294967296 then -4294967296 else if 4294967296 < x then 4294967296 else x
def sinF (a : Int) : Int := cut1 (sin4 (fold2 a))
def cosF (a : Int) : Int := sinF (addF a 6746518852)
theorem sinF_in (a : Int) : -4294967296 ≤ sinF a ∧ sinF a ≤ 4294967296 := by unfold sinF cut1; split <;> (try split) <;> omega

theorem mul_bound {a b A B : Int} (ha0 : 0 ≤ a) (ha : a ≤ A) (hb0 : 0 ≤ b) (hb : b ≤ B) : 0 ≤ a * b ∧ a * b ≤ A * B :=
  ⟨Int.mul_nonneg ha0 hb0, Int.mul_le_mul ha hb hb0 (by omega)⟩
theorem sq_bound {r A : Int} (h1 : -A ≤ r) (h2 : r ≤ A) : 0 ≤ r * r ∧ r * r ≤ A * A := by
  rcases Int.le_total 0 r with h | h
  · exact mul_bound h h2 h h2
  · have := mul_bound (a := -r) (b := -r) (A := A) (B := A) (by omega) (by omega) (by omega) (by omega)
    rw [Int.neg_mul_neg] at this; exact this
theorem sinQ_in {r : Int} (h1 : -6746518852 ≤ r) (h2 : r ≤ 6746518852) : 0 ≤ sinQ r ∧ sinQ r ≤ 10597407030 := by
  have := sq_bound h1 h2
  unfold sinQ mulF
  rw [clamp_id (by omega) (by omega)]
  omega
theorem mulF_small {q s : Int} (h1 : 0 ≤ q) (h2 : q ≤ 10597407030) (h3 : 0 ≤ s) (h4 : s ≤ 4294967296) : 0 ≤ mulF q s ∧ mulF q s ≤ 10597407030 := by
  have := mul_bound h1 h2 h3 h4
  unfold mulF
  rw [clamp_id (by omega) (by omega)]
  omega
theorem sin0_in {r : Int} (h1 : -6746518852 ≤ r) (h2 : r ≤ 6746518852) : 0 ≤ sin0 r ∧ sin0 r ≤ 4294967296 := by
  have := sinQ_in h1 h2; unfold sin0; omega
theorem sin1_in {r : Int} (h1 : -6746518852 ≤ r) (h2 : r ≤ 6746518852) : 0 ≤ sin1 r ∧ sin1 r ≤ 4294967296 := by
  have := sinQ_in h1 h2; have h := sin0_in h1 h2; have := mulF_small this.1 this.2 h.1 h.2; unfold sin1; omega
theorem sin2_in {r : Int} (h1 : -6746518852 ≤ r) (h2 : r ≤ 6746518852) : 0 ≤ sin2 r ∧ sin2 r ≤ 4294967296 := by
  have := sinQ_in h1 h2; have h := sin1_in h1 h2; have := mulF_small this.1 this.2 h.1 h.2; unfold sin2; omega
theorem sin3_in {r : Int} (h1 : -6746518852 ≤ r) (h2 : r ≤ 6746518852) : 0 ≤ sin3 r ∧ sin3 r ≤ 4294967296 := by
  have := sinQ_in h1 h2; have h := sin2_in h1 h2; have := mulF_small this.1 this.2 h.1 h.2; unfold sin3; omega
end Go.Proofs.Ytdmmjmdnljhooaa.FixM
