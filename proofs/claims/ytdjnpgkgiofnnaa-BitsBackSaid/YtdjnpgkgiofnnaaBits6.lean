/- The walks of chapter 05's reference: Number, Take, and its reader. -/
import Derived.Test.YtdjnpgkgiofnnaaBits5
set_option linter.unusedVariables false
set_option linter.unusedSimpArgs false
namespace Go.Proofs.Ytdjnpgkgiofnnaa.Bits6
open Go.RowKit BitsM Base Low Bits5

/-- the number of k bits from a place on -/
def part (L : List Bool) (p k : Nat) : Nat := num ((L.drop p).take k)
theorem part_step (L : List Bool) (p k : Nat) (h : p < L.length) : part L p (k + 1) = L[p].toNat + 2 * part L (p + 1) k := by
  unfold part
  rw [List.drop_eq_getElem_cons h, List.take_succ_cons]; rfl
theorem part_lt (L : List Bool) (p k : Nat) : part L p k < 2 ^ k := by
  have := num_lt ((L.drop p).take k)
  exact Nat.lt_of_lt_of_le this (Nat.pow_le_pow_right (by omega) (by simp; omega))

theorem part_byte (L : List Bool) (T i : Nat) : part L (8 * (T + i)) 8 = num L / 256 ^ T / 256 ^ i % 256 := by
  unfold part
  rw [num_slice, Nat.div_div_eq_div_mul, ← Nat.pow_add, pow256]
/-- what the reference's Take leaves -/
def RTake (w : World) (v : Value) (L : List Bool) (T : Nat) (e : Ending) (w' : World) : Prop :=
  ∃ v', e = .returned (.tuple #[.agg #[v, .int .i64 ((L.length / 8 : Nat) : Int)], v']) ∧ Own .u8 256 5 w.heap.size w' v' (bytesN (num L / 256 ^ T) (L.length / 8 - T)) ∧ Below w.heap.size w w'
end Go.Proofs.Ytdjnpgkgiofnnaa.Bits6
