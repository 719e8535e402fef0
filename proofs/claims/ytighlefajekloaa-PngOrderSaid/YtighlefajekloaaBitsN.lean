/- More of the plain mathematics of the bits: bytes as one number, parts of it. -/
import Derived.Test.YtighlefajekloaaBitsM
set_option linter.unusedVariables false
set_option linter.unusedSimpArgs false
namespace Go.Proofs.Ytighlefajekloaa.BitsM

/-- the number of a list of bytes -/
def valB : List Nat → Nat
  | [] => 0
  | x :: l => x + 256 * valB l
theorem valB_at (B : List Nat) : ∀ (_ : ∀ x ∈ B, x < 256) (i : Nat) (h : i < B.length), valB B / 256 ^ i % 256 = B[i] := by
  induction B with
  | nil => intro _ i h; simp at h
  | cons x l ih =>
    intro hb i h
    have hx := hb x (by simp)
    cases i with
    | zero => simp [valB]; omega
    | succ i =>
      simp only [valB, Nat.pow_succ, List.getElem_cons_succ]
      rw [Nat.mul_comm (256 ^ i) 256, ← Nat.div_div_eq_div_mul, show (x + 256 * valB l) / 256 = valB l from by omega]
      exact ih (fun y hy => hb y (by simp [hy])) i (by simpa using h)
theorem valB_lt (B : List Nat) : (∀ x ∈ B, x < 256) → valB B < 2 ^ (8 * B.length) := by
  induction B with
  | nil => intro _; simp [valB]
  | cons x l ih =>
    intro hb
    have hx := hb x (by simp)
    have := ih (fun y hy => hb y (by simp [hy]))
    simp only [valB, List.length_cons]
    rw [show 8 * (l.length + 1) = 8 + 8 * l.length from by omega, Nat.pow_add]
    omega
theorem valB_append (B C : List Nat) : valB (B ++ C) = valB B + 2 ^ (8 * B.length) * valB C := by
  induction B with
  | nil => simp [valB]
  | cons x l ih =>
    simp only [List.cons_append, valB, ih, List.length_cons]
    rw [show 8 * (l.length + 1) = 8 + 8 * l.length from by omega, Nat.pow_add, Nat.mul_add, show (2 : Nat) ^ 8 = 256 from rfl, Nat.mul_assoc]; omega
theorem bytesN_valB (B : List Nat) (hb : ∀ x ∈ B, x < 256) : bytesN (valB B) B.length = B := by
  apply List.ext_getElem?
  intro i
  by_cases h : i < B.length
  · rw [bytesN_at _ _ _ h, valB_at B hb i h, List.getElem?_eq_getElem h]
  · rw [List.getElem?_eq_none (by rw [bytesN_length]; omega), List.getElem?_eq_none (by omega)]
theorem valB_bytesN (c : Nat) : ∀ V, valB (bytesN V c) = V % 256 ^ c := by
  induction c with
  | zero => intro V; simp [bytesN, valB, Nat.mod_one]
  | succ c ih =>
    intro V
    have e : bytesN V (c + 1) = V % 256 :: bytesN (V / 256) c := by
      have h := bytesN_drop V (c + 1) 1 (by omega)
      have h2 : (bytesN V (c + 1))[0]? = some (V % 256) := by rw [bytesN_at _ _ _ (by omega)]; simp
      have h3 : (bytesN V (c + 1)) = (bytesN V (c + 1)).take 1 ++ (bytesN V (c + 1)).drop 1 := (List.take_append_drop 1 _).symm
      have h4 : (bytesN V (c + 1)).take 1 = [V % 256] := by
        rw [bytesN_take _ _ _ (by omega)]; simp [bytesN]
      rw [h3, h4, h]; simp
    rw [e, valB, ih, Nat.pow_succ, Nat.mul_comm (256 ^ c) 256, Nat.mod_mul]
/-- the bits of a list of bytes -/
def bitsB (B : List Nat) : List Bool := bitsOf (valB B) (8 * B.length)
theorem bitsB_length (B : List Nat) : (bitsB B).length = 8 * B.length := bitsOf_length _ _
theorem num_bitsB (B : List Nat) (hb : ∀ x ∈ B, x < 256) : num (bitsB B) = valB B := num_bitsOf _ _ (valB_lt B hb)

/-- a part of one byte is a part of the whole number -/
theorem byte_part (V p s : Nat) (h : p % 8 + s ≤ 8) : V / 256 ^ (p / 8) % 256 / 2 ^ (p % 8) % 2 ^ s = V / 2 ^ p % 2 ^ s := by
  have e8 : (256 : Nat) = 2 ^ (p % 8) * 2 ^ (8 - p % 8) := by rw [← Nat.pow_add, show p % 8 + (8 - p % 8) = 8 from by omega]
  have h1 : V / 256 ^ (p / 8) % 256 / 2 ^ (p % 8) = V / 256 ^ (p / 8) / 2 ^ (p % 8) % 2 ^ (8 - p % 8) := by
    generalize V / 256 ^ (p / 8) = X
    rw [e8, Nat.mod_mul_right_div_self]
  rw [h1, Nat.mod_mod_of_dvd _ (Nat.pow_dvd_pow 2 (by omega)), Nat.div_div_eq_div_mul, pow256, ← Nat.pow_add]
  congr 3; omega
/-- one part more -/
theorem part_add (X got s : Nat) : X % 2 ^ got + X / 2 ^ got % 2 ^ s * 2 ^ got = X % 2 ^ (got + s) := by
  rw [Nat.pow_add, Nat.mod_mul, Nat.mul_comm (2 ^ got)]
theorem part_or (X got s : Nat) : X % 2 ^ got ||| X / 2 ^ got % 2 ^ s * 2 ^ got = X % 2 ^ (got + s) := by
  rw [← part_add]
  have h : X % 2 ^ got < 2 ^ got := Nat.mod_lt _ (Nat.pow_pos (by omega))
  have := Nat.two_pow_add_eq_or_of_lt (i := got) h (X / 2 ^ got % 2 ^ s)
  rw [Nat.or_comm, Nat.mul_comm (X / 2 ^ got % 2 ^ s), ← this]; omega
end Go.Proofs.Ytighlefajekloaa.BitsM
