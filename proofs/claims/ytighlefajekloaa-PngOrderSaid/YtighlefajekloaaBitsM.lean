/- The plain mathematics of the bits (chapter 05): lists of bits as numbers, packed into bytes. Nothing of a program is named here. -/
set_option linter.unusedVariables false
set_option linter.unusedSimpArgs false
namespace Go.Proofs.Ytighlefajekloaa.BitsM

/-- the lowest k bits of n, the lowest first -/
def bitsOf (n : Nat) : Nat → List Bool
  | 0 => []
  | k + 1 => decide (n % 2 = 1) :: bitsOf (n / 2) k
/-- the number of a list of bits -/
def num : List Bool → Nat
  | [] => 0
  | b :: l => b.toNat + 2 * num l
theorem bitsOf_length (k : Nat) : ∀ n, (bitsOf n k).length = k := by
  induction k with
  | zero => intro n; rfl
  | succ k ih => intro n; simp [bitsOf, ih]
theorem num_append (l m : List Bool) : num (l ++ m) = num l + 2 ^ l.length * num m := by
  induction l with
  | nil => simp [num]
  | cons b l ih =>
    simp only [List.cons_append, num, ih, List.length_cons, Nat.pow_succ, Nat.mul_add]
    rw [Nat.mul_comm (2 ^ l.length) 2, Nat.mul_assoc]; omega
theorem num_lt (l : List Bool) : num l < 2 ^ l.length := by
  induction l with
  | nil => simp [num]
  | cons b l ih =>
    simp only [num, List.length_cons, Nat.pow_succ]
    have : b.toNat ≤ 1 := by cases b <;> simp
    omega
theorem num_bitsOf_mod (k : Nat) : ∀ n, num (bitsOf n k) = n % 2 ^ k := by
  induction k with
  | zero => intro n; simp [bitsOf, num, Nat.mod_one]
  | succ k ih =>
    intro n
    simp only [bitsOf, num, ih]
    rw [Nat.pow_succ, Nat.mul_comm (2 ^ k) 2, Nat.mod_mul]
    have : (decide (n % 2 = 1)).toNat = n % 2 := by
      by_cases h : n % 2 = 1
      · simp [h]
      · simp [h]; omega
    rw [this]
theorem num_bitsOf (n k : Nat) (h : n < 2 ^ k) : num (bitsOf n k) = n := by rw [num_bitsOf_mod, Nat.mod_eq_of_lt h]
theorem num_drop (l : List Bool) : ∀ k, num (l.drop k) = num l / 2 ^ k := by
  induction l with
  | nil => intro k; simp [num]
  | cons b l ih =>
    intro k
    cases k with
    | zero => simp
    | succ k =>
      simp only [List.drop_succ_cons, ih, num, Nat.pow_succ]
      have : b.toNat ≤ 1 := by cases b <;> simp
      rw [Nat.mul_comm (2 ^ k) 2, ← Nat.div_div_eq_div_mul]
      congr 1; omega
theorem num_take (l : List Bool) : ∀ k, num (l.take k) = num l % 2 ^ k := by
  induction l with
  | nil => intro k; simp [num]
  | cons b l ih =>
    intro k
    cases k with
    | zero => simp [num, Nat.mod_one]
    | succ k =>
      simp only [List.take_succ_cons, ih, num]
      rw [Nat.pow_succ, Nat.mul_comm (2 ^ k) 2, Nat.mod_mul]
      have : b.toNat ≤ 1 := by cases b <;> simp
      have e1 : (b.toNat + 2 * num l) % 2 = b.toNat := by omega
      have e2 : (b.toNat + 2 * num l) / 2 = num l := by omega
      rw [e1, e2]
/-- the number of so many bits from a place on -/
theorem num_slice (l : List Bool) (p k : Nat) : num ((l.drop p).take k) = num l / 2 ^ p % 2 ^ k := by rw [num_take, num_drop]
theorem num_inj (l : List Bool) : ∀ m : List Bool, l.length = m.length → num l = num m → l = m := by
  induction l with
  | nil => intro m h _; cases m with
    | nil => rfl
    | cons b m => simp at h
  | cons b l ih =>
    intro m h e
    cases m with
    | nil => simp at h
    | cons c m =>
      simp only [num] at e
      have hb : b.toNat ≤ 1 := by cases b <;> simp
      have hc : c.toNat ≤ 1 := by cases c <;> simp
      have e1 : b.toNat = c.toNat := by omega
      have e2 : num l = num m := by omega
      have e3 : b = c := by cases b <;> cases c <;> simp_all
      rw [e3, ih m (by simpa using h) e2]
theorem bitsOf_snoc (k : Nat) : ∀ n, bitsOf n (k + 1) = bitsOf n k ++ [decide (n / 2 ^ k % 2 = 1)] := by
  induction k with
  | zero => intro n; simp [bitsOf]
  | succ k ih =>
    intro n
    rw [bitsOf, ih, bitsOf]
    simp only [List.cons_append]
    rw [Nat.div_div_eq_div_mul, Nat.pow_succ, Nat.mul_comm 2 (2 ^ k)]
theorem bitsOf_num (l : List Bool) : bitsOf (num l) l.length = l := by
  apply num_inj
  · rw [bitsOf_length]
  · rw [num_bitsOf _ _ (num_lt l)]

/-- so many bytes of a number, the lowest first -/
def bytesN (V c : Nat) : List Nat := (List.range c).map fun i => V / 256 ^ i % 256
/-- a number of p bits, packed: the last byte open unless p is at a whole byte -/
def bytesOf (V p : Nat) : List Nat := bytesN V ((p + 7) / 8)
theorem bytesN_length (V c : Nat) : (bytesN V c).length = c := by simp [bytesN]
theorem bytesN_lt (V c : Nat) : ∀ x ∈ bytesN V c, x < 256 := by
  intro x hx; simp only [bytesN, List.mem_map] at hx; obtain ⟨i, _, rfl⟩ := hx; exact Nat.mod_lt _ (by omega)
theorem bytesN_at (V c i : Nat) (h : i < c) : (bytesN V c)[i]? = some (V / 256 ^ i % 256) := by simp [bytesN, h]
theorem bytesN_get (V c i : Nat) (h : i < (bytesN V c).length) : (bytesN V c)[i] = V / 256 ^ i % 256 := by simp [bytesN]
theorem bytesN_snoc (V c : Nat) : bytesN V (c + 1) = bytesN V c ++ [V / 256 ^ c % 256] := by simp [bytesN, List.range_succ]
theorem bytesN_take (V c j : Nat) (h : j ≤ c) : (bytesN V c).take j = bytesN V j := by
  apply List.ext_getElem?
  intro i
  by_cases hi : i < j
  · rw [List.getElem?_take, if_pos hi, bytesN_at _ _ _ (by omega), bytesN_at _ _ _ hi]
  · rw [List.getElem?_eq_none (by simp [bytesN_length]; omega), List.getElem?_eq_none (by simp [bytesN_length]; omega)]
theorem bytesN_drop (V c j : Nat) (h : j ≤ c) : (bytesN V c).drop j = bytesN (V / 256 ^ j) (c - j) := by
  apply List.ext_getElem?
  intro i
  rw [List.getElem?_drop]
  by_cases hi : i < c - j
  · rw [bytesN_at _ _ _ (by omega), bytesN_at _ _ _ hi, Nat.div_div_eq_div_mul, ← Nat.pow_add]
  · rw [List.getElem?_eq_none (by simp [bytesN_length]; omega), List.getElem?_eq_none (by simp [bytesN_length]; omega)]

theorem pow256 (q : Nat) : (256 : Nat) ^ q = 2 ^ (8 * q) := by rw [show (256 : Nat) = 2 ^ 8 from rfl, ← Nat.pow_mul]
/-- below its top, a number's bytes do not turn by what is put on top -/
theorem byte_below (V x p i : Nat) (h : 8 * (i + 1) ≤ p) : (V + x * 2 ^ p) / 256 ^ i % 256 = V / 256 ^ i % 256 := by
  rw [pow256]
  obtain ⟨d, rfl⟩ : ∃ d, p = 8 * i + 8 + d := ⟨p - (8 * i + 8), by omega⟩
  rw [show x * 2 ^ (8 * i + 8 + d) = 2 ^ (8 * i) * (2 ^ 8 * (2 ^ d * x)) from by rw [Nat.pow_add, Nat.pow_add, Nat.mul_assoc, Nat.mul_left_comm, Nat.mul_comm x, Nat.mul_assoc]]
  rw [Nat.add_mul_div_left _ _ (Nat.pow_pos (by omega))]
  omega
theorem byte_top (V x p : Nat) (h : V < 2 ^ p) : (V + x * 2 ^ p) / 256 ^ (p / 8) = V / 256 ^ (p / 8) + x * 2 ^ (p % 8) := by
  rw [pow256]
  have e : 2 ^ p = 2 ^ (8 * (p / 8)) * 2 ^ (p % 8) := by rw [← Nat.pow_add]; congr 1; omega
  rw [e, show x * (2 ^ (8 * (p / 8)) * 2 ^ (p % 8)) = 2 ^ (8 * (p / 8)) * (x * 2 ^ (p % 8)) from by rw [Nat.mul_left_comm]]
  rw [Nat.add_mul_div_left _ _ (Nat.pow_pos (by omega))]
theorem top_lt (V p : Nat) (h : V < 2 ^ p) : V / 256 ^ (p / 8) < 2 ^ (p % 8) := by
  rw [pow256]
  have e : 2 ^ p = 2 ^ (8 * (p / 8)) * 2 ^ (p % 8) := by rw [← Nat.pow_add]; congr 1; omega
  rw [Nat.div_lt_iff_lt_mul (Nat.pow_pos (by omega)), Nat.mul_comm, ← e]; exact h

/-- one turn of Put's loop: the bytes ahead (with a new one of 0 where the place is at a whole byte), then the last one, then all -/
theorem bytes_room (V p : Nat) (h : V < 2 ^ p) (h8 : p % 8 = 0) : bytesOf V p ++ [0] = bytesN V (p / 8 + 1) := by
  have e : (p + 7) / 8 = p / 8 := by omega
  have ht := top_lt V p h
  rw [h8] at ht
  have h0 : V / 256 ^ (p / 8) = 0 := by simpa using ht
  rw [bytesN_snoc, bytesOf, e, h0]
theorem bytes_same (V p : Nat) (h8 : p % 8 ≠ 0) : bytesOf V p = bytesN V (p / 8 + 1) := by
  unfold bytesOf; congr 1; omega
theorem bytes_put (V p x s : Nat) (hV : V < 2 ^ p) (hx : x < 2 ^ s) (hs : 1 ≤ s) (hps : p % 8 + s ≤ 8) :
    (bytesN V (p / 8 + 1)).set (p / 8) (V / 256 ^ (p / 8) % 256 ||| x * 2 ^ (p % 8)) = bytesOf (V + x * 2 ^ p) (p + s) := by
  have ht := top_lt V p hV
  have hpow : 2 ^ (p % 8) * 2 ^ s ≤ 256 := by
    rw [← Nat.pow_add]; exact Nat.pow_le_pow_right (n := 2) (by omega) hps
  have hxt : x * 2 ^ (p % 8) + 2 ^ (p % 8) ≤ 256 := by
    have : (x + 1) * 2 ^ (p % 8) ≤ 2 ^ s * 2 ^ (p % 8) := Nat.mul_le_mul_right _ hx
    rw [Nat.add_mul, Nat.one_mul, Nat.mul_comm (2 ^ s)] at this
    omega
  have hor : V / 256 ^ (p / 8) % 256 ||| x * 2 ^ (p % 8) = V / 256 ^ (p / 8) + x * 2 ^ (p % 8) := by
    rw [Nat.mod_eq_of_lt (by omega)]
    have := Nat.two_pow_add_eq_or_of_lt (i := p % 8) (b := V / 256 ^ (p / 8)) ht x
    rw [Nat.or_comm, Nat.mul_comm x, ← this]; omega
  have hc : (p + s + 7) / 8 = p / 8 + 1 := by omega
  unfold bytesOf
  rw [hc]
  apply List.ext_getElem?
  intro i
  rw [List.getElem?_set]
  by_cases hi : p / 8 = i
  · subst hi
    rw [if_pos rfl, if_pos (by rw [bytesN_length]; omega), bytesN_at _ _ _ (by omega), byte_top _ _ _ hV, hor]
    congr 1; omega
  · rw [if_neg hi]
    by_cases hlt : i < p / 8 + 1
    · rw [bytesN_at _ _ _ hlt, bytesN_at _ _ _ hlt, byte_below _ _ _ _ (by omega)]
    · rw [List.getElem?_eq_none (by rw [bytesN_length]; omega), List.getElem?_eq_none (by rw [bytesN_length]; omega)]
/-- what Put's turn lays into the byte -/
theorem put_part (n k at_ : Nat) (hn : n < 2 ^ k) (hat : at_ < 8) : n % 256 * 2 ^ at_ % 256 = n % 2 ^ (min (8 - at_) k) * 2 ^ at_ := by
  have e256 : (256 : Nat) = 2 ^ at_ * 2 ^ (8 - at_) := by rw [← Nat.pow_add, show at_ + (8 - at_) = 8 from by omega]
  have h1 : n % 256 * 2 ^ at_ % 256 = n % 2 ^ (8 - at_) * 2 ^ at_ := by
    rw [Nat.mul_comm (n % 256)]
    conv => lhs; rw [e256]
    rw [Nat.mul_mod_mul_left, Nat.mul_comm (2 ^ at_) (2 ^ (8 - at_)), Nat.mod_mul_right_mod, Nat.mul_comm]
  rw [h1]
  rcases Nat.le_total (8 - at_) k with h | h
  · rw [Nat.min_eq_left h]
  · rw [Nat.min_eq_right h, Nat.mod_eq_of_lt hn, Nat.mod_eq_of_lt (Nat.lt_of_lt_of_le hn (Nat.pow_le_pow_right (by omega) h))]
theorem put_num (V n p s : Nat) : V + n % 2 ^ s * 2 ^ p + n / 2 ^ s * 2 ^ (p + s) = V + n * 2 ^ p := by
  have h : n % 2 ^ s * 2 ^ p + n / 2 ^ s * 2 ^ (p + s) = n * 2 ^ p := by
    conv => rhs; rw [← Nat.mod_add_div n (2 ^ s)]
    rw [Nat.add_mul, Nat.pow_add]
    congr 1
    simp only [Nat.mul_comm, Nat.mul_left_comm]
  omega
theorem put_lt (V n p s : Nat) (hV : V < 2 ^ p) : V + n % 2 ^ s * 2 ^ p < 2 ^ (p + s) := by
  have h1 : n % 2 ^ s < 2 ^ s := Nat.mod_lt _ (Nat.pow_pos (by omega))
  have h2 : (n % 2 ^ s + 1) * 2 ^ p ≤ 2 ^ s * 2 ^ p := Nat.mul_le_mul_right _ h1
  rw [Nat.pow_add, Nat.mul_comm (2 ^ p)]
  rw [Nat.add_mul, Nat.one_mul] at h2
  omega
theorem put_next (n k s : Nat) (hn : n < 2 ^ k) (hs : s ≤ k) : n / 2 ^ s < 2 ^ (k - s) := by
  rw [Nat.div_lt_iff_lt_mul (Nat.pow_pos (by omega)), ← Nat.pow_add, show k - s + s = k from by omega]; exact hn
theorem append_num (L : List Bool) (n k : Nat) (hn : n < 2 ^ k) : num (L ++ bitsOf n k) = num L + n * 2 ^ L.length := by
  rw [num_append, num_bitsOf n k hn, Nat.mul_comm]
end Go.Proofs.Ytighlefajekloaa.BitsM
