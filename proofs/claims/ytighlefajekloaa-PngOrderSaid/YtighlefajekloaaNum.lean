/- Numbers as the walks meet them: sums, shifts and bit by bit work of u32, u64 and u8 over natural numbers; rows of numbers that lie in arrays. No program is named here. -/
import Derived.WalkKit
import Derived.Laws.Bits64
import Derived.Laws.Bits64b
import Derived.Laws.Rows
set_option linter.unusedVariables false
set_option linter.unusedSimpArgs false
namespace Go.Proofs.Ytighlefajekloaa.Num
open Go.RowKit

theorem wrap32 (a : Nat) : IntKind.u32.wrap (a : Int) = ((a % 4294967296 : Nat) : Int) := by rw [IntKind.wrap_u32]; omega
theorem wrap64u (a : Nat) : IntKind.u64.wrap (a : Int) = ((a % 18446744073709551616 : Nat) : Int) := by rw [IntKind.wrap_u64]; omega
theorem wrap8 (a : Nat) : IntKind.u8.wrap (a : Int) = ((a % 256 : Nat) : Int) := by rw [IntKind.wrap_u8]; omega
theorem add32 (a b : Nat) : IntKind.u32.wrap ((a : Int) + (b : Int)) = (((a + b) % 4294967296 : Nat) : Int) := by rw [IntKind.wrap_u32]; omega
theorem natDiv (a b : Nat) : (a : Int) / (b : Int) = ((a / b : Nat) : Int) := (Int.natCast_ediv a b).symm
theorem natMod (a b : Nat) : (a : Int) % (b : Int) = ((a % b : Nat) : Int) := (Int.natCast_emod a b).symm
theorem natMul (a b : Nat) : (a : Int) * (b : Int) = ((a * b : Nat) : Int) := (Int.natCast_mul a b).symm
theorem natAdd (a b : Nat) : (a : Int) + (b : Int) = ((a + b : Nat) : Int) := (Int.natCast_add a b).symm
theorem natPow (a b : Nat) : (a : Int) ^ b = ((a ^ b : Nat) : Int) := (Int.natCast_pow a b).symm
theorem or_disjoint (a b n : Nat) (h : b < 2 ^ n) : a * 2 ^ n ||| b = a * 2 ^ n + b := by
  rw [Nat.mul_comm]; exact (Nat.two_pow_add_eq_or_of_lt h a).symm
theorem xor32_lt {a b : Nat} (ha : a < 4294967296) (hb : b < 4294967296) : a ^^^ b < 4294967296 := Nat.xor_lt_two_pow (n := 32) ha hb
theorem and32_lt {a b : Nat} (hb : b < 4294967296) : a &&& b < 4294967296 := Nat.and_lt_two_pow (n := 32) a hb

/-! arrays of numbers -/
/-- the cells of an array of n numbers -/
def arr (k : IntKind) (n : Nat) (f : Nat → Nat) : Array Value := ((List.range n).map fun i => Value.int k (f i : Int)).toArray
theorem arr_size (k : IntKind) (n : Nat) (f : Nat → Nat) : (arr k n f).size = n := by simp [arr]
theorem arr_at (k : IntKind) (n : Nat) (f : Nat → Nat) (i : Nat) (h : i < n) : (arr k n f)[i]? = some (.int k (f i : Int)) := by simp [arr, h]
theorem arr_one (k : IntKind) (n : Nat) (f : Nat → Nat) : ∀ v ∈ (arr k n f).toList, v.oneCell' = true := by
  intro v hv
  simp only [arr, List.mem_map] at hv
  obtain ⟨i, _, rfl⟩ := hv
  rfl
theorem arr_congr (k : IntKind) (n : Nat) (f g : Nat → Nat) (h : ∀ i, i < n → f i = g i) : arr k n f = arr k n g := by
  unfold arr
  congr 1
  apply List.map_congr_left
  intro i hi
  rw [h i (by simpa using hi)]
theorem arr_set (k : IntKind) (n : Nat) (f : Nat → Nat) (i x : Nat) : (arr k n f).setIfInBounds i (.int k (x : Int)) = arr k n (fun j => if j = i then x else f j) := by
  apply Array.ext_getElem?
  intro j
  rw [Array.getElem?_setIfInBounds, arr_size]
  by_cases hj : j < n
  · rw [arr_at _ _ _ _ hj]
    by_cases hij : i = j
    · subst hij; rw [if_pos rfl, if_pos hj, arr_at _ _ _ _ hj]; simp
    · rw [if_neg hij, arr_at _ _ _ _ hj, if_neg (Ne.symm hij)]
  · rw [Array.getElem?_eq_none (xs := arr k n (fun j => if j = i then x else f j)) (by rw [arr_size]; omega), Array.getElem?_eq_none (xs := arr k n f) (by rw [arr_size]; omega)]
    by_cases hij : i = j
    · subst hij; simp [hj]
    · rw [if_neg hij]
theorem arr_toList (k : IntKind) (n : Nat) (f : Nat → Nat) : (arr k n f).toList = (List.range n).map fun i => Value.int k (f i : Int) := by simp [arr]
theorem arr_fill (k : IntKind) (n : Nat) (f : Nat → Nat) (i : Nat) : (arr k n fun j => if j < i then f j else 0).setIfInBounds i (.int k (f i : Int)) = arr k n (fun j => if j < i + 1 then f j else 0) := by
  rw [arr_set]
  apply arr_congr
  intro j _
  by_cases h : j = i
  · subst h; simp
  · rw [if_neg h]
    by_cases h2 : j < i
    · rw [if_pos h2, if_pos (by omega)]
    · rw [if_neg h2, if_neg (by omega)]
theorem arr_full (k : IntKind) (n : Nat) (f : Nat → Nat) (m : Nat) (h : n ≤ m) : arr k n (fun j => if j < m then f j else 0) = arr k n f :=
  arr_congr _ _ _ _ (fun i hi => if_pos (by omega))
/-- 'a[i]' of an array of numbers by value -/
theorem run_index_arr {P : Program} (T E : TypeId) (n : Nat) (k : IntKind) (f : Nat → Nat) (hT : P.underlying T = some (.array n E)) (hE : P.underlying E = some (.int k)) (hs : (P.info? E).map (·.size) = some 1) (i : Nat) (hi : i < n) (w : World) :
    (Instr.index T (.agg (arr k n f)) (.int .i64 (i : Int))).run P w = .ok (.int k (f i : Int)) w := by
  have hA := arr_at k n f i hi
  have hagg : (isAgg E).run P w = .ok false w := by
    unfold isAgg
    rw [Sem.run_bind, run_underlying hE w]
    rfl
  cases hq : P.info? E with
  | none => simp [hq] at hs
  | some d =>
    have hd : d.size = 1 := by simpa [hq] using hs
    have hin : (0 : Int) ≤ (i : Int) ∧ (i : Int) < (n : Int) := ⟨by omega, by omega⟩
    simp [Instr.index, run_underlying hT, asIntOf, hi, go_sem, sizeOf, typeInfo, hq, hd, part, hagg, hA]
attribute [irreducible] arr
end Go.Proofs.Ytighlefajekloaa.Num
