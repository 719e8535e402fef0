/- The plain mathematics of packing (chapter 06): the longest match, found among all places or among those with the same first three bytes; tokens; the bits of a block. Nothing of a program is named here. -/
import Derived.Test.YtcchekkedgajpaaBitsM
set_option linter.unusedVariables false
set_option linter.unusedSimpArgs false
namespace Go.Proofs.Ytcchekkedgajpaa.DefM
open BitsM
/-! ### how many bytes are the same -/
def com (B : List Nat) : Nat → Nat → Nat → Nat
  | _, _, 0 => 0
  | p, i, m + 1 => if B.getD p 0 = B.getD i 0 then com B (p + 1) (i + 1) m + 1 else 0
theorem com_le (B : List Nat) : ∀ (m p i : Nat), com B p i m ≤ m := by
  intro m
  induction m with
  | zero => intro p i; exact Nat.le_refl _
  | succ m ih =>
    intro p i
    unfold com
    split
    · exact Nat.succ_le_succ (ih _ _)
    · omega
theorem com_same (B : List Nat) : ∀ (m p i k : Nat), k < com B p i m → B.getD (p + k) 0 = B.getD (i + k) 0 := by
  intro m
  induction m with
  | zero => intro p i k h; unfold com at h; omega
  | succ m ih =>
    intro p i k h
    unfold com at h
    split at h
    · rename_i e
      cases k with
      | zero => exact e
      | succ k =>
        have := ih (p + 1) (i + 1) k (by omega)
        rw [show p + 1 + k = p + (k + 1) by omega, show i + 1 + k = i + (k + 1) by omega] at this
        exact this
    · omega
theorem com_stop (B : List Nat) : ∀ (m p i : Nat), com B p i m < m → B.getD (p + com B p i m) 0 ≠ B.getD (i + com B p i m) 0 := by
  intro m
  induction m with
  | zero => intro p i h; omega
  | succ m ih =>
    intro p i h
    unfold com at h ⊢
    split at h
    · rename_i e
      rw [if_pos e]
      have := ih (p + 1) (i + 1) (by omega)
      rw [show p + 1 + com B (p + 1) (i + 1) m = p + (com B (p + 1) (i + 1) m + 1) by omega, show i + 1 + com B (p + 1) (i + 1) m = i + (com B (p + 1) (i + 1) m + 1) by omega] at this
      exact this
    · rename_i e
      rw [if_neg e]
      exact e
/-- it is the number up to which all are the same, and no more -/
theorem com_unique (B : List Nat) (m p i n : Nat) (hn : n ≤ m) (h1 : ∀ k, k < n → B.getD (p + k) 0 = B.getD (i + k) 0) (h2 : n < m → B.getD (p + n) 0 ≠ B.getD (i + n) 0) : com B p i m = n := by
  rcases Nat.lt_trichotomy (com B p i m) n with h | h | h
  · exact absurd (h1 _ h) (com_stop B m p i (by omega))
  · exact h
  · have hl := com_le B m p i
    exact absurd (com_same B m p i n h) (h2 (by omega))
theorem com_ge (B : List Nat) (m p i n : Nat) (hn : n ≤ m) (h : ∀ k, k < n → B.getD (p + k) 0 = B.getD (i + k) 0) : n ≤ com B p i m := by
  rcases Nat.lt_or_ge (com B p i m) n with h1 | h1
  · exact absurd (h _ h1) (com_stop B m p i (by omega))
  · exact h1
/-! ### the longest match, the nearest -/
def upd (s : Nat × Nat) (n d : Nat) : Nat × Nat := if s.1 < n then (n, d) else s
/-- distances from d on, k of them -/
def mat (B : List Nat) (i m : Nat) : Nat → Nat → Nat × Nat → Nat × Nat
  | 0, _, s => s
  | k + 1, d, s => mat B i m k (d + 1) (upd s (com B (i - d) i m) d)
def matchF (B : List Nat) (i to : Nat) : Nat × Nat := mat B i (min 258 (to - i)) (min i 32768) 1 (0, 0)
/-- among some distances alone -/
def matL (B : List Nat) (i m : Nat) (ds : List Nat) (s : Nat × Nat) : Nat × Nat := ds.foldl (fun s d => upd s (com B (i - d) i m) d) s
theorem mat_list (B : List Nat) (i m : Nat) : ∀ (k d : Nat) (s : Nat × Nat), mat B i m k d s = matL B i m (List.range' d k) s := by
  intro k
  induction k with
  | zero => intro d s; rfl
  | succ k ih => intro d s; rw [List.range'_succ]; show mat B i m k (d + 1) _ = _; rw [ih]; rfl
theorem upd_ge (s : Nat × Nat) (n d : Nat) : s.1 ≤ (upd s n d).1 := by unfold upd; split <;> simp <;> omega
theorem matL_ge (B : List Nat) (i m : Nat) : ∀ (ds : List Nat) (s : Nat × Nat), s.1 ≤ (matL B i m ds s).1 := by
  intro ds
  induction ds with
  | nil => intro s; exact Nat.le_refl _
  | cons d ds ih => intro s; exact Nat.le_trans (upd_ge s _ d) (ih _)
theorem matL_le (B : List Nat) (i m : Nat) : ∀ (ds : List Nat) (s : Nat × Nat), s.1 ≤ m → (matL B i m ds s).1 ≤ m := by
  intro ds
  induction ds with
  | nil => intro s h; exact h
  | cons d ds ih =>
    intro s h
    refine ih _ ?_
    show (upd s (com B (i - d) i m) d).1 ≤ m
    unfold upd
    split
    · exact com_le _ _ _ _
    · exact h
/-- once all that may be found is found, nothing turns any more -/
theorem matL_full (B : List Nat) (i m : Nat) : ∀ (ds : List Nat) (s : Nat × Nat), m ≤ s.1 → matL B i m ds s = s := by
  intro ds
  induction ds with
  | nil => intro s h; rfl
  | cons d ds ih =>
    intro s h
    have e : upd s (com B (i - d) i m) d = s := by
      unfold upd
      rw [if_neg (by have := com_le B m (i - d) i; omega)]
    show matL B i m ds (upd s (com B (i - d) i m) d) = s
    rw [e]; exact ih s h
/-- those with three bytes alike are all that count -/
theorem matL_three (B : List Nat) (i m : Nat) (q : Nat → Bool) (hq : ∀ d, q d = false → com B (i - d) i m < 3) : ∀ (ds : List Nat) (s t : Nat × Nat), (s = t ∧ 3 ≤ s.1) ∨ (t = (0, 0) ∧ s.1 < 3) → (∀ d ∈ ds, q d = true → 3 ≤ com B (i - d) i m) →
    ((matL B i m ds s = matL B i m (ds.filter q) t ∧ 3 ≤ (matL B i m ds s).1) ∨ (matL B i m (ds.filter q) t = (0, 0) ∧ (matL B i m ds s).1 < 3)) := by
  intro ds
  induction ds with
  | nil => intro s t h _; exact h
  | cons d ds ih =>
    intro s t h hc
    have hc' : ∀ d ∈ ds, q d = true → 3 ≤ com B (i - d) i m := fun x hx => hc x (List.mem_cons_of_mem _ hx)
    by_cases e : q d = true
    · rw [List.filter_cons_of_pos e]
      have h3 := hc d (List.mem_cons_self ..) e
      show ((matL B i m ds (upd s (com B (i - d) i m) d) = matL B i m (ds.filter q) (upd t (com B (i - d) i m) d) ∧ _) ∨ _)
      refine ih _ _ ?_ hc'
      rcases h with ⟨rfl, h⟩ | ⟨rfl, h⟩
      · exact .inl ⟨rfl, Nat.le_trans h (upd_ge _ _ _)⟩
      · refine .inl ?_
        unfold upd
        rw [if_pos (by omega), if_pos (show (0 : Nat) < com B (i - d) i m by omega)]
        exact ⟨rfl, h3⟩
    · rw [List.filter_cons_of_neg e]
      have hlt := hq d (by simpa using e)
      show ((matL B i m ds (upd s (com B (i - d) i m) d) = matL B i m (ds.filter q) t ∧ _) ∨ _)
      refine ih _ _ ?_ hc'
      rcases h with ⟨rfl, h⟩ | ⟨rfl, h⟩
      · refine .inl ?_
        unfold upd
        rw [if_neg (by omega)]
        exact ⟨rfl, h⟩
      · refine .inr ⟨rfl, ?_⟩
        unfold upd
        split
        · exact hlt
        · exact h
/-! ### tokens -/
inductive Tok where
  | lit (b : Nat)
  | mat (n d : Nat)
def toks (B : List Nat) (to : Nat) : Nat → Nat → List Tok
  | 0, _ => []
  | f + 1, i => if i < to then (if 3 ≤ (matchF B i to).1 then .mat (matchF B i to).1 (matchF B i to).2 :: toks B to f (i + (matchF B i to).1) else .lit (B.getD i 0) :: toks B to f (i + 1)) else []
/-- the bytes from i up to a place, as tokens -/
def tokens (B : List Nat) (i to : Nat) : List Tok := toks B to (to - i) i
theorem toks_fuel (B : List Nat) (to : Nat) : ∀ (f i g : Nat), to - i ≤ f → to - i ≤ g → toks B to f i = toks B to g i := by
  intro f
  induction f with
  | zero =>
    intro i g h1 h2
    cases g with
    | zero => rfl
    | succ g => unfold toks; rw [if_neg (by omega)]
  | succ f ih =>
    intro i g h1 h2
    cases g with
    | zero => unfold toks; rw [if_neg (by omega)]
    | succ g =>
      unfold toks
      by_cases h : i < to
      · rw [if_pos h, if_pos h]
        by_cases h3 : 3 ≤ (matchF B i to).1
        · rw [if_pos h3, if_pos h3, ih _ g (by omega) (by omega)]
        · rw [if_neg h3, if_neg h3, ih _ g (by omega) (by omega)]
      · rw [if_neg h, if_neg h]
theorem tokens_end (B : List Nat) (i to : Nat) (h : to ≤ i) : tokens B i to = [] := by
  unfold tokens
  rw [show to - i = 0 by omega]; rfl
theorem tokens_lit (B : List Nat) (i to : Nat) (h : i < to) (h3 : ¬ 3 ≤ (matchF B i to).1) : tokens B i to = .lit (B.getD i 0) :: tokens B (i + 1) to := by
  unfold tokens
  rw [show to - i = (to - i - 1) + 1 by omega]
  conv => lhs; unfold toks
  rw [if_pos h, if_neg h3, toks_fuel B to (to - i - 1) (i + 1) (to - (i + 1)) (by omega) (by omega)]
theorem tokens_mat (B : List Nat) (i to : Nat) (h : i < to) (h3 : 3 ≤ (matchF B i to).1) : tokens B i to = .mat (matchF B i to).1 (matchF B i to).2 :: tokens B (i + (matchF B i to).1) to := by
  unfold tokens
  rw [show to - i = (to - i - 1) + 1 by omega]
  conv => lhs; unfold toks
  rw [if_pos h, if_pos h3, toks_fuel B to (to - i - 1) (i + (matchF B i to).1) (to - (i + (matchF B i to).1)) (by omega) (by omega)]
theorem match_le (B : List Nat) (i to : Nat) : (matchF B i to).1 ≤ min 258 (to - i) := by
  unfold matchF
  rw [mat_list]
  exact matL_le B i _ _ _ (Nat.zero_le _)
/-- what is found lies where it was looked for -/
theorem matL_at (B : List Nat) (i m : Nat) : ∀ (ds : List Nat) (s : Nat × Nat), (matL B i m ds s = s) ∨ ((matL B i m ds s).2 ∈ ds ∧ (matL B i m ds s).1 = com B (i - (matL B i m ds s).2) i m) := by
  intro ds
  induction ds with
  | nil => intro s; exact .inl rfl
  | cons d ds ih =>
    intro s
    show matL B i m ds (upd s (com B (i - d) i m) d) = s ∨ _
    rcases ih (upd s (com B (i - d) i m) d) with h | ⟨h1, h2⟩
    · by_cases e : s.1 < com B (i - d) i m
      · refine .inr ?_
        show (matL B i m ds (upd s (com B (i - d) i m) d)).2 ∈ d :: ds ∧ _
        have e2 : upd s (com B (i - d) i m) d = (com B (i - d) i m, d) := by unfold upd; rw [if_pos e]
        have e3 : matL B i m (d :: ds) s = (com B (i - d) i m, d) := by
          show matL B i m ds (upd s (com B (i - d) i m) d) = _
          rw [h, e2]
        rw [h, e2, e3]
        exact ⟨List.mem_cons_self .., rfl⟩
      · refine .inl ?_
        rw [h]; unfold upd; rw [if_neg e]
    · exact .inr ⟨List.mem_cons_of_mem _ h1, h2⟩
theorem match_far (B : List Nat) (i to : Nat) (h : 3 ≤ (matchF B i to).1) : 1 ≤ (matchF B i to).2 ∧ (matchF B i to).2 ≤ i ∧ (matchF B i to).2 ≤ 32768 := by
  unfold matchF at *
  rw [mat_list] at *
  rcases matL_at B i (min 258 (to - i)) (List.range' 1 (min i 32768)) (0, 0) with e | ⟨h1, -⟩
  · rw [e] at h; simp at h
  · rw [List.mem_range'_1] at h1
    omega
end Go.Proofs.Ytcchekkedgajpaa.DefM
