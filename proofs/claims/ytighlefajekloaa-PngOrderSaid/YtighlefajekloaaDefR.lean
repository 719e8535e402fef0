/- The plain law of match: the places noted, from the last one on, tell the document's longest match. -/
import Derived.Test.YtighlefajekloaaDefS
set_option linter.unusedVariables false
set_option linter.unusedSimpArgs false
namespace Go.Proofs.Ytighlefajekloaa.DefR
open DefM DefS
/-- asking the places of a list, the first one first -/
def scan (B : List Nat) (i m : Nat) : List Nat → Nat × Nat → Nat × Nat
  | [], s => s
  | p :: r, s => if i ≤ p + 32768 ∧ s.1 < m then scan B i m r (if B.getD (p + s.1) 0 = B.getD (i + s.1) 0 then upd s (com B p i m) (i - p) else s) else s
theorem upd_skip (B : List Nat) (p i m : Nat) (s : Nat × Nat) (h : ¬ B.getD (p + s.1) 0 = B.getD (i + s.1) 0) (d : Nat) : upd s (com B p i m) d = s := by
  unfold upd
  rw [if_neg]
  intro h1
  exact h (com_same B m p i s.1 h1)
theorem scan_mat (B : List Nat) (i m : Nat) : ∀ (l : List Nat) (s : Nat × Nat), (l.Pairwise fun a b => b ≤ a) → (∀ p ∈ l, p < i) → scan B i m l s = matL B i m ((l.filter fun p => decide (i ≤ p + 32768)).map (i - ·)) s := by
  intro l
  induction l with
  | nil => intro s _ _; rfl
  | cons p r ih =>
    intro s hp hi
    rw [List.pairwise_cons] at hp
    have hpi := hi p (List.mem_cons_self ..)
    unfold scan
    by_cases h1 : i ≤ p + 32768
    · rw [List.filter_cons_of_pos (by simpa using h1), List.map_cons]
      by_cases h2 : s.1 < m
      · rw [if_pos ⟨h1, h2⟩, ih _ hp.2 (fun q hq => hi q (List.mem_cons_of_mem _ hq))]
        have e : (if B.getD (p + s.1) 0 = B.getD (i + s.1) 0 then upd s (com B p i m) (i - p) else s) = upd s (com B (i - (i - p)) i m) (i - p) := by
          rw [show i - (i - p) = p by omega]
          split
          · rfl
          · rename_i h; rw [upd_skip B p i m s h]
        rw [e]; rfl
      · rw [if_neg (fun h => h2 h.2), matL_full B i m _ s (by omega)]
    · rw [if_neg (fun h => h1 h.1), List.filter_cons_of_neg (by simpa using h1)]
      have : (r.filter fun p => decide (i ≤ p + 32768)) = [] := by
        rw [List.filter_eq_nil_iff]
        intro q hq
        have := hp.1 q hq
        simp; omega
      rw [this]; rfl
theorem back_range : ∀ i, (List.range i).reverse.map (i - ·) = List.range' 1 i := by
  intro i
  apply List.ext_getElem
  · simp
  · intro k h1 h2
    simp at h1
    simp [List.getElem_reverse]
    omega
theorem range_filter (n k : Nat) : (List.range' 1 n).filter (fun d => decide (d ≤ k)) = List.range' 1 (min n k) := by
  induction n with
  | zero => simp
  | succ n ih =>
    rw [List.range'_concat, List.filter_append, ih]
    by_cases h : n + 1 ≤ k
    · rw [List.filter_cons_of_pos (by simp; omega), show min (n + 1) k = min n k + 1 by omega, List.range'_concat, show min n k = n by omega]; simp
    · rw [List.filter_cons_of_neg (by simp; omega), show min (n + 1) k = min n k by omega]; simp
/-- the three bytes at the distance d are those here -/
def q3 (B : List Nat) (i : Nat) (d : Nat) : Bool := B.getD (i - d) 0 == B.getD i 0 && (B.getD (i - d + 1) 0 == B.getD (i + 1) 0 && B.getD (i - d + 2) 0 == B.getD (i + 2) 0)
theorem filter_map_sub (i : Nat) (f : Nat → Bool) : ∀ (l : List Nat), (∀ p ∈ l, p < i) → (l.filter f).map (i - ·) = (l.map (i - ·)).filter (fun d => f (i - d)) := by
  intro l
  induction l with
  | nil => intro _; rfl
  | cons p r ih =>
    intro h
    have hp := h p (List.mem_cons_self ..)
    have e : f (i - (i - p)) = f p := by rw [show i - (i - p) = p by omega]
    by_cases hf : f p = true
    · rw [List.filter_cons_of_pos hf, List.map_cons, List.map_cons, List.filter_cons_of_pos (by rw [e]; exact hf), ih (fun q hq => h q (List.mem_cons_of_mem _ hq))]
    · rw [List.filter_cons_of_neg hf, List.map_cons, List.filter_cons_of_neg (by rw [e]; exact hf), ih (fun q hq => h q (List.mem_cons_of_mem _ hq))]
theorem scan_places (B : List Nat) (i m : Nat) (hm : 3 ≤ m) :
    scan B i m (plc B i (B.getD i 0) (B.getD (i + 1) 0) (B.getD (i + 2) 0)).reverse (0, 0) = matL B i m ((List.range' 1 (min i 32768)).filter (q3 B i)) (0, 0) := by
  have hmem : ∀ p ∈ (plc B i (B.getD i 0) (B.getD (i + 1) 0) (B.getD (i + 2) 0)).reverse, p < i := by
    intro p hp
    rw [List.mem_reverse] at hp
    exact (plc_mem.1 hp).1
  have hpw : (plc B i (B.getD i 0) (B.getD (i + 1) 0) (B.getD (i + 2) 0)).reverse.Pairwise fun a b => b ≤ a := by
    rw [List.pairwise_reverse]
    exact (List.Pairwise.filter _ (List.pairwise_lt_range)).imp (fun h => Nat.le_of_lt h)
  rw [scan_mat B i m _ _ hpw hmem]
  congr 1
  rw [filter_map_sub i _ _ hmem]
  unfold plc
  rw [← List.filter_reverse, filter_map_sub i _ _ (fun p hp => by simp at hp; exact hp), back_range, List.filter_filter, ← range_filter i 32768, List.filter_filter]
  refine List.filter_congr fun d hd => ?_
  rw [List.mem_range'_1] at hd
  have : decide (i ≤ i - d + 32768) = decide (d ≤ 32768) := by congr 1; apply propext; omega
  rw [this]
  unfold q3
  rw [Bool.and_comm]
theorem scan_match (B : List Nat) (i up : Nat) (hm : 3 ≤ min 258 (up - i)) (s : Nat × Nat) (hs : scan B i (min 258 (up - i)) (plc B i (B.getD i 0) (B.getD (i + 1) 0) (B.getD (i + 2) 0)).reverse (0, 0) = s) :
    (3 ≤ (matchF B i up).1 ∧ s = matchF B i up) ∨ (¬ 3 ≤ (matchF B i up).1 ∧ s.1 < 3) := by
  rw [scan_places B i _ hm] at hs
  have h := matL_three B i (min 258 (up - i)) (q3 B i) (fun d hd => ?_) (List.range' 1 (min i 32768)) (0, 0) (0, 0) (.inr ⟨rfl, by decide⟩) (fun d hd hq => ?_)
  · unfold matchF
    rw [mat_list]
    rcases h with ⟨h1, h2⟩ | ⟨h1, h2⟩
    · exact .inl ⟨h2, by rw [h1]; exact hs.symm⟩
    · exact .inr ⟨by omega, by rw [← hs, h1]; decide⟩
  · rcases Nat.lt_or_ge (com B (i - d) i (min 258 (up - i))) 3 with h | h
    · exact h
    · exfalso
      have c := fun k (hk : k < 3) => com_same B _ (i - d) i k (Nat.lt_of_lt_of_le hk h)
      have c0 := c 0 (by omega)
      have c1 := c 1 (by omega)
      have c2 := c 2 (by omega)
      simp only [Nat.add_zero] at c0
      unfold q3 at hd
      simp only [c0, c1, c2, BEq.rfl, Bool.and_self] at hd
      cases hd
  · unfold q3 at hq
    simp only [Bool.and_eq_true, beq_iff_eq] at hq
    refine com_ge B _ _ _ 3 hm fun k hk => ?_
    rcases (by omega : k = 0 ∨ k = 1 ∨ k = 2) with rfl | rfl | rfl
    · exact hq.1
    · exact hq.2.1
    · exact hq.2.2
end Go.Proofs.Ytighlefajekloaa.DefR
