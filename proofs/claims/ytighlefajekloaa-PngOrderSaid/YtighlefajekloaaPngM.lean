/- The passes of a picture, plain: no program is named here. -/
import Derived.Test.YtighlefajekloaaBase
set_option linter.unusedVariables false
set_option linter.unusedSimpArgs false
namespace Go.Proofs.Ytighlefajekloaa.PngM
open Go.RowKit Base
/-- first column, first row, and the steps of each pass -/
def passesL : List (Nat × Nat × Nat × Nat) := [(0, 0, 8, 8), (4, 0, 8, 8), (0, 4, 4, 8), (2, 0, 4, 4), (0, 2, 2, 4), (1, 0, 2, 2), (0, 1, 1, 2)]
def manyP (w px sx : Nat) : Nat := (w + sx - 1 - px) / sx
/-- the rows of a pass: the number of the first pixel, how far it is to the next, how many -/
def rowsP (w h : Nat) (p : Nat × Nat × Nat × Nat) : List (Nat × Nat × Nat) :=
  if manyP w p.1 p.2.2.1 = 0 then [] else (List.range (manyP h p.2.1 p.2.2.2)).map fun j => ((p.2.1 + j * p.2.2.2) * w + p.1, p.2.2.1, manyP w p.1 p.2.2.1)
def rowsL (w h : Nat) : List (Nat × Nat × Nat) := passesL.flatMap (rowsP w h)
/-- the pixels of a row -/
def pixR (x : Nat × Nat × Nat) : List Nat := (List.range x.2.2).map fun i => x.1 + i * x.2.1
def orderL (w h : Nat) : List Nat := (rowsL w h).flatMap pixR
theorem many_lt (h py sy j : Nat) (hs : 0 < sy) (hp : py < sy) (hh : 1 ≤ h) : j < manyP h py sy ↔ py + j * sy < h := by
  unfold manyP
  rw [← Nat.add_one_le_iff, Nat.le_div_iff_mul_le hs, Nat.succ_mul]
  omega
theorem passesL_len : passesL.length = 7 := rfl
theorem passesL_good (k : Nat) (hk : k < 7) : ∃ px py sx sy : Nat, passesL[k]? = some (px, py, sx, sy) ∧ px < sx ∧ py < sy ∧ sx ≤ 8 ∧ sy ≤ 8 := by
  match k, hk with
  | 0, _ => exact ⟨_, _, _, _, rfl, by omega, by omega, by omega, by omega⟩
  | 1, _ => exact ⟨_, _, _, _, rfl, by omega, by omega, by omega, by omega⟩
  | 2, _ => exact ⟨_, _, _, _, rfl, by omega, by omega, by omega, by omega⟩
  | 3, _ => exact ⟨_, _, _, _, rfl, by omega, by omega, by omega, by omega⟩
  | 4, _ => exact ⟨_, _, _, _, rfl, by omega, by omega, by omega, by omega⟩
  | 5, _ => exact ⟨_, _, _, _, rfl, by omega, by omega, by omega, by omega⟩
  | 6, _ => exact ⟨_, _, _, _, rfl, by omega, by omega, by omega, by omega⟩
  | n + 7, h => omega
/-- the rows ahead of pass k -/
def preP (w h k : Nat) : List (Nat × Nat × Nat) := (passesL.take k).flatMap (rowsP w h)
theorem preP_zero (w h : Nat) : preP w h 0 = [] := rfl
theorem preP_all (w h : Nat) : preP w h 7 = rowsL w h := rfl
theorem preP_next (w h k : Nat) (p : Nat × Nat × Nat × Nat) (hp : passesL[k]? = some p) : preP w h (k + 1) = preP w h k ++ rowsP w h p := by
  unfold preP
  rw [List.take_add_one, hp, List.flatMap_append]
  simp
theorem preP_prefix (w h k : Nat) : preP w h k <+: rowsL w h := by
  unfold preP rowsL
  refine ⟨(passesL.drop k).flatMap (rowsP w h), ?_⟩
  rw [← List.flatMap_append, List.take_append_drop]
theorem rowsP_none (w h : Nat) (p : Nat × Nat × Nat × Nat) (h0 : manyP w p.1 p.2.2.1 = 0) : rowsP w h p = [] := by
  unfold rowsP; rw [if_pos h0]
theorem rowsP_take (w h : Nat) (p : Nat × Nat × Nat × Nat) (h0 : ¬ manyP w p.1 p.2.2.1 = 0) (j : Nat) (hj : j < manyP h p.2.1 p.2.2.2) :
    (rowsP w h p).take (j + 1) = (rowsP w h p).take j ++ [((p.2.1 + j * p.2.2.2) * w + p.1, p.2.2.1, manyP w p.1 p.2.2.1)] := by
  unfold rowsP
  rw [if_neg h0, List.take_add_one]
  congr 1
  rw [List.getElem?_map, List.getElem?_range hj]
  rfl
theorem rowsP_len (w h : Nat) (p : Nat × Nat × Nat × Nat) (h0 : ¬ manyP w p.1 p.2.2.1 = 0) : (rowsP w h p).length = manyP h p.2.1 p.2.2.2 := by
  unfold rowsP; rw [if_neg h0]; simp
/-- what is ahead of a row and the row itself stand in front of all -/
theorem row_prefix (w h k : Nat) (p : Nat × Nat × Nat × Nat) (hp : passesL[k]? = some p) (j : Nat) :
    preP w h k ++ (rowsP w h p).take j <+: rowsL w h := by
  refine List.IsPrefix.trans ?_ (preP_prefix w h (k + 1))
  rw [preP_next w h k p hp]
  exact (List.prefix_append_right_inj _).mpr (List.take_prefix _ _)
end Go.Proofs.Ytighlefajekloaa.PngM
