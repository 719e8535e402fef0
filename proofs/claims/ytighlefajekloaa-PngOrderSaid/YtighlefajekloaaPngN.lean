/- The passes of a picture, plain: bounds. No program is named here. -/
import Derived.Test.YtighlefajekloaaPngM
set_option linter.unusedVariables false
set_option linter.unusedSimpArgs false
namespace Go.Proofs.Ytighlefajekloaa.PngN
open Go.RowKit Base PngM
theorem passes_mem {p : Nat × Nat × Nat × Nat} (hp : p ∈ passesL) : p.1 < p.2.2.1 ∧ p.2.1 < p.2.2.2 ∧ p.2.2.1 ≤ 8 ∧ p.2.2.2 ≤ 8 := by
  have h : ∀ p ∈ passesL, p.1 < p.2.2.1 ∧ p.2.1 < p.2.2.2 ∧ p.2.2.1 ≤ 8 ∧ p.2.2.2 ≤ 8 := by decide
  exact h p hp
theorem many_le (w px sx : Nat) (hs : 0 < sx) (hp : px < sx) (hw : 1 ≤ w) : manyP w px sx ≤ w := by
  rcases Nat.lt_or_ge w (manyP w px sx) with h | h
  · have h2 := (many_lt w px sx w hs hp hw).mp h
    have : w * 1 ≤ w * sx := Nat.mul_le_mul_left w hs
    omega
  · exact h
theorem rows_mem (w h a b m : Nat) (hw : 1 ≤ w) (hh : 1 ≤ h) (hm : (a, b, m) ∈ rowsL w h) : m ≤ w ∧ b ≤ 8 ∧ 1 ≤ m ∧ ∀ i, i < m → a + i * b < w * h := by
  unfold rowsL at hm
  obtain ⟨p, hp, hx⟩ := List.mem_flatMap.mp hm
  obtain ⟨h1, h2, h3, h4⟩ := passes_mem hp
  unfold rowsP at hx
  by_cases h0 : manyP w p.1 p.2.2.1 = 0
  · rw [if_pos h0] at hx; simp at hx
  · rw [if_neg h0] at hx
    obtain ⟨j, hj, he⟩ := List.mem_map.mp hx
    simp only [Prod.mk.injEq] at he
    obtain ⟨rfl, rfl, rfl⟩ := he
    refine ⟨many_le _ _ _ (by omega) h1 hw, h3, by omega, fun i hi => ?_⟩
    have hy := (many_lt h p.2.1 p.2.2.2 j (by omega) h2 hh).mp (List.mem_range.mp hj)
    have hxw := (many_lt w p.1 p.2.2.1 i (by omega) h1 hw).mp hi
    generalize p.2.1 + j * p.2.2.2 = y at *
    have : (y + 1) * w ≤ h * w := Nat.mul_le_mul_right w hy
    rw [Nat.succ_mul, Nat.mul_comm h w] at this
    omega
theorem flat_le {α β : Type} (f : α → List β) (B : Nat) : ∀ l : List α, (∀ x ∈ l, (f x).length ≤ B) → (l.flatMap f).length ≤ l.length * B
  | [], _ => by simp
  | x :: l, h => by
    rw [List.flatMap_cons, List.length_append, List.length_cons, Nat.succ_mul]
    have h1 := h x (List.mem_cons_self ..)
    have h2 := flat_le f B l (fun y hy => h y (List.mem_cons_of_mem _ hy))
    omega
theorem rowsL_len (w h : Nat) (hh : 1 ≤ h) : (rowsL w h).length ≤ 7 * h := by
  refine flat_le (rowsP w h) h passesL fun p hp => ?_
  obtain ⟨h1, h2, h3, h4⟩ := passes_mem hp
  unfold rowsP
  split
  · simp
  · simp only [List.length_map, List.length_range]
    exact many_le _ _ _ (by omega) h2 hh
theorem pix_len (x : Nat × Nat × Nat) : (pixR x).length = x.2.2 := by unfold pixR; simp
theorem pre_len (w h : Nat) (hw : 1 ≤ w) (hh : 1 ≤ h) (l : List (Nat × Nat × Nat)) (hl : l <+: rowsL w h) : (l.flatMap pixR).length ≤ 7 * h * w := by
  refine Nat.le_trans (flat_le pixR w l fun x hx => ?_) (Nat.mul_le_mul_right w (Nat.le_trans hl.length_le (rowsL_len w h hh)))
  obtain ⟨a, b, m⟩ := x
  rw [pix_len]
  exact (rows_mem w h a b m hw hh (hl.subset hx)).1
/-- a row's pixels, one by one -/
theorem pix_zero (a b m : Nat) : (List.range 0).map (fun i => a + i * b) = [] := rfl
theorem pix_next (a b i : Nat) : (List.range (i + 1)).map (fun i => a + i * b) = (List.range i).map (fun i => a + i * b) ++ [a + i * b] := by
  rw [List.range_succ, List.map_append]; rfl
theorem flat_next (l : List (Nat × Nat × Nat)) (a b m : Nat) : (l ++ [(a, b, m)]).flatMap pixR = l.flatMap pixR ++ (List.range m).map fun i => a + i * b := by
  rw [List.flatMap_append]; simp [pixR]
end Go.Proofs.Ytighlefajekloaa.PngN
