import Derived.Test.YtighlefajekloaaBitsM
/- The plain mathematics of packing (chapter 06): the longest match, found among all places or among those with the same first three bytes; tokens; the bits of a block. Nothing of a program is named here. -/
set_option linter.unusedVariables false
set_option linter.unusedSimpArgs false
namespace Go.Proofs.Ytighlefajekloaa.DefM
open BitsM
/-! ### how many bytes are the same -/
def com (B : List Nat) : Nat → Nat → Nat → Nat
  | _, _, 0 => 0
  | p, i, m + 1 => if B.getD p 0 = B.getD i 0 then com B (p + 1) (i + 1) m + 1 else 0
theorem com_le (B : List Nat) : ∀ (m p i : Nat), com B p i m ≤ m := by
  intro m
  induction m with
  | zero => intro p i; exact Nat.le_refl _
  | succ m ih =>
    intro p i
    unfold com
    split
    · exact Nat.succ_le_succ (ih _ _)
    · omega
theorem com_same (B : List Nat) : ∀ (m p i k : Nat), k < com B p i m → B.getD (p + k) 0 = B.getD (i + k) 0 := by
  intro m
  induction m with
  | zero => intro p i k h; unfold com at h; omega
  | succ m ih =>
    intro p i k h
    unfold com at h
    split at h
    · rename_i e
      cases k with
      | zero => exact e
      | succ k =>
        have := ih (p + 1) (i + 1) k (by omega)
        rw [show p + 1 + k = p + (k + 1) by omega, show i + 1 + k = i + (k + 1) by omega] at this
        exact this
    · omega
theorem com_stop (B : List Nat) : ∀ (m p i : Nat), com B p i m < m → B.getD (p + com B p i m) 0 ≠ B.getD (i + com B p i m) 0 := by
  intro m
  induction m with
  | zero => intro p i h; omega
  | succ m ih =>
    intro p i h
    unfold com at h ⊢
    split at h
    · rename_i e
      rw [if_pos e]
      have := ih (p + 1) (i + 1) (by omega)
      rw [show p + 1 + com B (p + 1) (i + 1) m = p + (com B (p + 1) (i + 1) m + 1) by omega, show i + 1 + com B (p + 1) (i + 1) m = i + (com B (p + 1) (i + 1) m + 1) by omega] at this
      exact this
    · rename_i e
      rw [if_neg e]
      exact e
/-- it is the number up to which all are the same, and no more -/
theorem com_unique (B : List Nat) (m p i n : Nat) (hn : n ≤ m) (h1 : ∀ k, k < n → B.getD (p + k) 0 = B.getD (i + k) 0) (h2 : n < m → B.getD (p + n) 0 ≠ B.getD (i + n) 0) : com B p i m = n := by
  rcases Nat.lt_trichotomy (com B p i m) n with h | h | h
  · exact absurd (h1 _ h) (com_stop B m p i (by omega))
  · exact h
  · have hl := com_le B m p i
    exact absurd (com_same B m p i n h) (h2 (by omega))
theorem com_ge (B : List Nat) (m p i n : Nat) (hn : n ≤ m) (h : ∀ k, k < n → B.getD (p + k) 0 = B.getD (i + k) 0) : n ≤ com B p i m := by
  rcases Nat.lt_or_ge (com B p i m) n with h1 | h1
  · exact absurd (h _ h1) (com_stop B m p i (by omega))
  · exact h1
/-! ### the longest match, the nearest -/
def upd (s : Nat × Nat) (n d : Nat) : Nat × Nat := if s.1 < n then (n, d) else s
/-- distances from d on, k of them -/
def mat (B : List Nat) (i m : Nat) : Nat → Nat → Nat × Nat → Nat × Nat
  | 0, _, s => s
  | k + 1, d, s => mat B i m k (d + 1) (upd s (com B (i - d) i m) d)
def matchF (B : List Nat) (i to : Nat) : Nat × Nat := mat B i (min 258 (to - i)) (min i 32768) 1 (0, 0)
/-- among some distances alone -/
def matL (B : List Nat) (i m : Nat) (ds : List Nat) (s : Nat × Nat) : Nat × Nat := ds.foldl (fun s d => upd s (com B (i - d) i m) d) s
theorem mat_list (B : List Nat) (i m : Nat) : ∀ (k d : Nat) (s : Nat × Nat), mat B i m k d s = matL B i m (List.range' d k) s := by
  intro k
  induction k with
  | zero => intro d s; rfl
  | succ k ih => intro d s; rw [List.range'_succ]; show mat B i m k (d + 1) _ = _; rw [ih]; rfl
theorem upd_ge (s : Nat × Nat) (n d : Nat) : s.1 ≤ (upd s n d).1 := by unfold upd; split <;> simp <;> omega
theorem matL_ge (B : List Nat) (i m : Nat) : ∀ (ds : List Nat) (s : Nat × Nat), s.1 ≤ (matL B i m ds s).1 := by
  intro ds
  induction ds with
  | nil => intro s; exact Nat.le_refl _
  | cons d ds ih => intro s; exact Nat.le_trans (upd_ge s _ d) (ih _)
theorem matL_le (B : List Nat) (i m : Nat) : ∀ (ds : List Nat) (s : Nat × Nat), s.1 ≤ m → (matL B i m ds s).1 ≤ m := by
  intro ds
  induction ds with
  | nil => intro s h; exact h
  | cons d ds ih =>
    intro s h
    refine ih _ ?_
    show (upd s (com B (i - d) i m) d).1 ≤ m
    unfold upd
    split
    · exact com_le _ _ _ _
    · exact h
/-- once all that may be found is found, nothing turns any more -/
theorem matL_full (B : List Nat) (i m : Nat) : ∀ (ds : List Nat) (s : Nat × Nat), m ≤ s.1 → matL B i m ds s = s := by
  intro ds
  induction ds with
  | nil => intro s h; rfl
  | cons d ds ih =>
    intro s h
    have e : upd s (com B (i - d) i m) d = s := by
      unfold upd
      rw [if_neg (by have := com_le B m (i - d) i; omega)]
    show matL B i m ds (upd s (com B (i - d) i m) d) = s
    rw [e]; exact ih s h
/-- those with three bytes alike are all that count -/
theorem matL_three (B : List Nat) (i m : Nat) (q : Nat → Bool) (hq : ∀ d, q d = false → com B (i - d) i m < 3) : ∀ (ds : List Nat) (s t : Nat × Nat), (s = t ∧ 3 ≤ s.1) ∨ (t = (0, 0) ∧ s.1 < 3) → (∀ d ∈ ds, q d = true → 3 ≤ com B (i - d) i m) →
    ((matL B i m ds s = matL B i m (ds.filter q) t ∧ 3 ≤ (matL B i m ds s).1) ∨ (matL B i m (ds.filter q) t = (0, 0) ∧ (matL B i m ds s).1 < 3)) := by
  intro ds
  induction ds with
  | nil => intro s t h _; exact h
  | cons d ds ih =>
    intro s t h hc
    have hc' : ∀ d ∈ ds, q d = true → 3 ≤ com B (i - d) i m := fun x hx => hc x (List.mem_cons_of_mem _ hx)
    by_cases e : q d = true
    · rw [List.filter_cons_of_pos e]
      have h3 := hc d (List.mem_cons_self ..) e
      show ((matL B i m ds (upd s (com B (i - d) i m) d) = matL B i m (ds.filter q) (upd t (com B (i - d) i m) d) ∧ _) ∨ _)
      refine ih _ _ ?_ hc'
      rcases h with ⟨rfl, h⟩ | ⟨rfl, h⟩
      · exact .inl ⟨rfl, Nat.le_trans h (upd_ge _ _ _)⟩
      · refine .inl ?_
        unfold upd
        rw [if_pos (by omega), if_pos (show (0 : Nat) < com B (i - d) i m by omega)]
        exact ⟨rfl, h3⟩
    · rw [List.filter_cons_of_neg e]
      have hlt := hq d (by simpa using e)
      show ((matL B i m ds (upd s (com B (i - d) i m) d) = matL B i m (ds.filter q) t ∧ _) ∨ _)
      refine ih _ _ ?_ hc'
      rcases h with ⟨rfl, h⟩ | ⟨rfl, h⟩
      · refine .inl ?_
        unfold upd
        rw [if_neg (by omega)]
        exact ⟨rfl, h⟩
      · refine .inr ⟨rfl, ?_⟩
        unfold upd
        split
        · exact hlt
        · exact h
/-! ### tokens -/
inductive Tok where
  | lit (b : Nat)
  | mat (n d : Nat)
def toks (B : List Nat) (to : Nat) : Nat → Nat → List Tok
  | 0, _ => []
  | f + 1, i => if i < to then (if 3 ≤ (matchF B i to).1 then .mat (matchF B i to).1 (matchF B i to).2 :: toks B to f (i + (matchF B i to).1) else .lit (B.getD i 0) :: toks B to f (i + 1)) else []
/-- the bytes from i up to a place, as tokens -/
def tokens (B : List Nat) (i to : Nat) : List Tok := toks B to (to - i) i
theorem toks_fuel (B : List Nat) (to : Nat) : ∀ (f i g : Nat), to - i ≤ f → to - i ≤ g → toks B to f i = toks B to g i := by
  intro f
  induction f with
  | zero =>
    intro i g h1 h2
    cases g with
    | zero => rfl
    | succ g => unfold toks; rw [if_neg (by omega)]
  | succ f ih =>
    intro i g h1 h2
    cases g with
    | zero => unfold toks; rw [if_neg (by omega)]
    | succ g =>
      unfold toks
      by_cases h : i < to
      · rw [if_pos h, if_pos h]
        by_cases h3 : 3 ≤ (matchF B i to).1
        · rw [if_pos h3, if_pos h3, ih _ g (by omega) (by omega)]
        · rw [if_neg h3, if_neg h3, ih _ g (by omega) (by omega)]
      · rw [if_neg h, if_neg h]
theorem tokens_end (B : List Nat) (i to : Nat) (h : to ≤ i) : tokens B i to = [] := by
  unfold tokens
  rw [show to - i = 0 by omega]; rfl
theorem tokens_lit (B : List Nat) (i to : Nat) (h : i < to) (h3 : ¬ 3 ≤ (matchF B i to).1) : tokens B i to = .lit (B.getD i 0) :: tokens B (i + 1) to := by
  unfold tokens
  rw [show to - i = (to - i - 1) + 1 by omega]
  conv => lhs; unfold toks
  rw [if_pos h, if_neg h3, toks_fuel B to (to - i - 1) (i + 1) (to - (i + 1)) (by omega) (by omega)]
theorem tokens_mat (B : List Nat) (i to : Nat) (h : i < to) (h3 : 3 ≤ (matchF B i to).1) : tokens B i to = .mat (matchF B i to).1 (matchF B i to).2 :: tokens B (i + (matchF B i to).1) to := by
  unfold tokens
  rw [show to - i = (to - i - 1) + 1 by omega]
  conv => lhs; unfold toks
  rw [if_pos h, if_pos h3, toks_fuel B to (to - i - 1) (i + (matchF B i to).1) (to - (i + (matchF B i to).1)) (by omega) (by omega)]
theorem match_le (B : List Nat) (i to : Nat) : (matchF B i to).1 ≤ min 258 (to - i) := by
  unfold matchF
  rw [mat_list]
  exact matL_le B i _ _ _ (Nat.zero_le _)
/-- what is found lies where it was looked for -/
theorem matL_at (B : List Nat) (i m : Nat) : ∀ (ds : List Nat) (s : Nat × Nat), (matL B i m ds s = s) ∨ ((matL B i m ds s).2 ∈ ds ∧ (matL B i m ds s).1 = com B (i - (matL B i m ds s).2) i m) := by
  intro ds
  induction ds with
  | nil => intro s; exact .inl rfl
  | cons d ds ih =>
    intro s
    show matL B i m ds (upd s (com B (i - d) i m) d) = s ∨ _
    rcases ih (upd s (com B (i - d) i m) d) with h | ⟨h1, h2⟩
    · by_cases e : s.1 < com B (i - d) i m
      · refine .inr ?_
        show (matL B i m ds (upd s (com B (i - d) i m) d)).2 ∈ d :: ds ∧ _
        have e2 : upd s (com B (i - d) i m) d = (com B (i - d) i m, d) := by unfold upd; rw [if_pos e]
        have e3 : matL B i m (d :: ds) s = (com B (i - d) i m, d) := by
          show matL B i m ds (upd s (com B (i - d) i m) d) = _
          rw [h, e2]
        rw [h, e2, e3]
        exact ⟨List.mem_cons_self .., rfl⟩
      · refine .inl ?_
        rw [h]; unfold upd; rw [if_neg e]
    · exact .inr ⟨List.mem_cons_of_mem _ h1, h2⟩
theorem match_far (B : List Nat) (i to : Nat) (h : 3 ≤ (matchF B i to).1) : 1 ≤ (matchF B i to).2 ∧ (matchF B i to).2 ≤ i ∧ (matchF B i to).2 ≤ 32768 := by
  unfold matchF at *
  rw [mat_list] at *
  rcases matL_at B i (min 258 (to - i)) (List.range' 1 (min i 32768)) (0, 0) with e | ⟨h1, -⟩
  · rw [e] at h; simp at h
  · rw [List.mem_range'_1] at h1
    omega
end Go.Proofs.Ytighlefajekloaa.DefM

/- The plain mathematics of packing: the codes' bits; a block's bits. Nothing of a program is named here. -/
set_option linter.unusedVariables false
set_option linter.unusedSimpArgs false
namespace Go.Proofs.Ytighlefajekloaa.DefN
open BitsM DefM
/-! ### codes -/
def symF (s : Nat) : Nat × Nat := if s < 144 then (48 + s, 8) else if s < 256 then (400 + s - 144, 9) else if s < 280 then (s - 256, 7) else (192 + s - 280, 8)
/-- a code's bits, the highest first -/
def rev (n k : Nat) : List Bool := (bitsOf n k).reverse
def symB (s : Nat) : List Bool := rev (symF s).1 (symF s).2
def lenT : List Nat := [3, 4, 5, 6, 7, 8, 9, 10, 11, 13, 15, 17, 19, 23, 27, 31, 35, 43, 51, 59, 67, 83, 99, 115, 131, 163, 195, 227, 258]
def lenX : List Nat := [0, 0, 0, 0, 0, 0, 0, 0, 1, 1, 1, 1, 2, 2, 2, 2, 3, 3, 3, 3, 4, 4, 4, 4, 5, 5, 5, 5, 0]
def dstT : List Nat := [1, 2, 3, 4, 5, 7, 9, 13, 17, 25, 33, 49, 65, 97, 129, 193, 257, 385, 513, 769, 1025, 1537, 2049, 3073, 4097, 6145, 8193, 12289, 16385, 24577]
def dstX : List Nat := [0, 0, 0, 0, 1, 1, 2, 2, 3, 3, 4, 4, 5, 5, 6, 6, 7, 7, 8, 8, 9, 9, 10, 10, 11, 11, 12, 12, 13, 13]
/-- the last one whose least number is not above n, from k on -/
def findG (T : List Nat) (n : Nat) : Nat → Nat → Nat
  | 0, k => k
  | f + 1, k => if k + 1 < T.length ∧ T.getD (k + 1) 0 ≤ n then findG T n f (k + 1) else k
def findF (T : List Nat) (n : Nat) : Nat := findG T n T.length 0
/-- spans: which one n is in, and from where it begins -/
def amongG (wide : Nat → Nat) (n : Nat) : Nat → Nat → Nat → Nat × Nat
  | 0, span, frm => (span, frm)
  | f + 1, span, frm => if 2 ^ wide span ≤ n - frm then amongG wide n f (span + 1) (frm + 2 ^ wide span) else (span, frm)
def wideL (k : Nat) : Nat := k / 4 - 1
def wideD (k : Nat) : Nat := k / 2 - 1
theorem among_find (wide : Nat → Nat) (T : List Nat) (n : Nat) (hT : ∀ k, k + 1 < T.length → T.getD (k + 1) 0 = T.getD k 0 + 2 ^ wide k) (hn : n < T.getD (T.length - 1) 0 + 2 ^ wide (T.length - 1)) :
    ∀ (f g k : Nat), k < T.length → T.length - k ≤ f → T.length - k ≤ g → T.getD k 0 ≤ n → amongG wide n f k (T.getD k 0) = (findG T n g k, T.getD (findG T n g k) 0) := by
  intro f
  induction f with
  | zero => intro g k hk h1; omega
  | succ f ih =>
    intro g k hk h1 h2 hle
    cases g with
    | zero => omega
    | succ g =>
      unfold amongG findG
      by_cases c : k + 1 < T.length
      · have e := hT k c
        by_cases c2 : T.getD (k + 1) 0 ≤ n
        · rw [if_pos (by omega), if_pos ⟨c, c2⟩, ← e]
          exact ih g (k + 1) c (by omega) (by omega) c2
        · rw [if_neg (by omega), if_neg (fun h => c2 h.2)]
      · have e : k = T.length - 1 := by omega
        rw [if_neg (by rw [← e] at hn; omega), if_neg (fun h => c h.1)]
theorem find_lt (T : List Nat) (n : Nat) : ∀ (f k : Nat), k < T.length → findG T n f k < T.length := by
  intro f
  induction f with
  | zero => intro k h; exact h
  | succ f ih =>
    intro k h
    unfold findG
    split
    · rename_i c; exact ih (k + 1) c.1
    · exact h
theorem find_le (T : List Nat) (n : Nat) : ∀ (f k : Nat), T.getD k 0 ≤ n → T.getD (findG T n f k) 0 ≤ n := by
  intro f
  induction f with
  | zero => intro k h; exact h
  | succ f ih =>
    intro k h
    unfold findG
    split
    · rename_i c; exact ih (k + 1) c.2
    · exact h
theorem dst_steps : ∀ k, k + 1 < dstT.length → dstT.getD (k + 1) 0 = dstT.getD k 0 + 2 ^ wideD k := by
  have h : ∀ k, k < 29 → dstT.getD (k + 1) 0 = dstT.getD k 0 + 2 ^ wideD k := by decide
  intro k hk
  have e : dstT.length = 30 := by decide
  exact h k (by omega)
theorem dst_top : dstT.getD (dstT.length - 1) 0 + 2 ^ wideD (dstT.length - 1) = 32769 := by decide
theorem among_dst (n : Nat) (h1 : 1 ≤ n) (h2 : n ≤ 32768) : amongG wideD n 30 0 1 = (findF dstT n, dstT.getD (findF dstT n) 0) :=
  among_find wideD dstT n dst_steps (by rw [dst_top]; omega) 30 30 0 (by decide) (by decide) (by decide) h1
theorem among_len (n : Nat) (h1 : 3 ≤ n) (h2 : n ≤ 257) : amongG wideL n 30 0 3 = (findF lenT n, lenT.getD (findF lenT n) 0) := by
  have h : ∀ n, n < 258 → 3 ≤ n → amongG wideL n 30 0 3 = (findF lenT n, lenT.getD (findF lenT n) 0) := by decide +kernel
  exact h n (by omega) h1
theorem dst_facts (n : Nat) (h1 : 1 ≤ n) (h2 : n ≤ 32768) : findF dstT n < 30 ∧ dstT.getD (findF dstT n) 0 ≤ n ∧ n - dstT.getD (findF dstT n) 0 < 2 ^ wideD (findF dstT n) ∧ dstX.getD (findF dstT n) 0 = wideD (findF dstT n) := by
  have a := find_lt dstT n dstT.length 0 (by decide)
  have b := find_le dstT n dstT.length 0 h1
  have c : ∀ k, k < 30 → dstX.getD k 0 = wideD k := by decide
  refine ⟨a, b, ?_, c _ a⟩
  have d : ∀ (f k : Nat), k < dstT.length → dstT.length - k ≤ f → dstT.getD k 0 ≤ n → n < dstT.getD (findG dstT n f k) 0 + 2 ^ wideD (findG dstT n f k) := by
    intro f
    induction f with
    | zero => intro k hk h; omega
    | succ f ih =>
      intro k hk h hle
      unfold findG
      by_cases c1 : k + 1 < dstT.length
      · have e := dst_steps
        by_cases c2 : dstT.getD (k + 1) 0 ≤ n
        · rw [if_pos ⟨c1, c2⟩]; exact ih (k + 1) c1 (by omega) c2
        · rw [if_neg (fun h => c2 h.2)]; have := e k c1; omega
      · rw [if_neg (fun h => c1 h.1)]
        have e : k = dstT.length - 1 := by omega
        have e2 : dstT.getD (dstT.length - 1) 0 + 2 ^ wideD (dstT.length - 1) = 32769 := by decide
        rw [e]; omega
  have := d dstT.length 0 (by decide) (by decide) h1
  unfold findF
  omega
theorem len_facts (n : Nat) (h1 : 3 ≤ n) (h2 : n ≤ 257) : findF lenT n < 28 ∧ lenT.getD (findF lenT n) 0 ≤ n ∧ n - lenT.getD (findF lenT n) 0 < 2 ^ wideL (findF lenT n) ∧ lenX.getD (findF lenT n) 0 = wideL (findF lenT n) := by
  have h : ∀ n, n < 258 → 3 ≤ n → (findF lenT n < 28 ∧ lenT.getD (findF lenT n) 0 ≤ n ∧ n - lenT.getD (findF lenT n) 0 < 2 ^ wideL (findF lenT n) ∧ lenX.getD (findF lenT n) 0 = wideL (findF lenT n)) := by decide +kernel
  exact h n (by omega) h1
theorem len_258 : findF lenT 258 = 28 := by decide
/-! ### a block's bits -/
def tokB : Tok → List Bool
  | .lit b => symB b
  | .mat n d => symB (257 + findF lenT n) ++ bitsOf (n - lenT.getD (findF lenT n) 0) (lenX.getD (findF lenT n) 0) ++ rev (findF dstT d) 5 ++ bitsOf (d - dstT.getD (findF dstT d) 0) (dstX.getD (findF dstT d) 0)
def fixB (last : Nat) (l : List Tok) : List Bool := bitsOf last 1 ++ bitsOf 1 2 ++ l.flatMap tokB ++ symB 256
def al8 (n : Nat) : Nat := (n + 7) / 8 * 8
def storedB (last P : Nat) (bs : List Nat) : List Bool := bitsOf last 1 ++ bitsOf 0 2 ++ List.replicate (al8 (P + 3) - (P + 3)) false ++ bitsOf bs.length 16 ++ bitsOf (65535 - bs.length) 16 ++ bs.flatMap (fun b => bitsOf b 8)
/-- the bytes of a block -/
def part (B : List Nat) (S to : Nat) : List Nat := (B.drop S).take (to - S)
def blkB (B : List Nat) (S to last : Nat) (L : List Bool) : List Bool :=
  L ++ (if (storedB last L.length (part B S to)).length < (fixB last (tokens B S to)).length then storedB last L.length (part B S to) else fixB last (tokens B S to))
/-! ### fields: numbers of some bits -/
def fldB (f : Nat × Nat) : List Bool := bitsOf f.1 f.2
def symT (s : Nat) : Nat × Nat := (num (symB s), (symF s).2)
def revT (n k : Nat) : Nat × Nat := (num (rev n k), k)
theorem rev_len (n k : Nat) : (rev n k).length = k := by unfold rev; rw [List.length_reverse, bitsOf_length]
theorem symB_len (s : Nat) : (symB s).length = (symF s).2 := rev_len _ _
theorem fld_sym (s : Nat) : fldB (symT s) = symB s := by
  unfold fldB symT
  have h := bitsOf_num (symB s)
  rw [symB_len] at h
  exact h
theorem fld_rev (n k : Nat) : fldB (revT n k) = rev n k := by
  unfold fldB revT
  have h := bitsOf_num (rev n k)
  rw [rev_len] at h
  exact h
/-- a token's fields, as the program lays them -/
def tokT : Tok → List (Nat × Nat)
  | .lit b => [symT b]
  | .mat n d => (if n = 258 then [symT 285] else [symT (257 + findF lenT n), (n - lenT.getD (findF lenT n) 0, wideL (findF lenT n))]) ++ [revT (findF dstT d) 5, (d - dstT.getD (findF dstT d) 0, wideD (findF dstT d))]
def okT : Tok → Prop
  | .lit b => b < 256
  | .mat n d => 3 ≤ n ∧ n ≤ 258 ∧ 1 ≤ d ∧ d ≤ 32768
theorem tok_fields (t : Tok) (h : okT t) : (tokT t).flatMap fldB = tokB t := by
  cases t with
  | lit b => show fldB (symT b) ++ [] = symB b; rw [fld_sym, List.append_nil]
  | mat n d =>
    obtain ⟨h1, h2, h3, h4⟩ := h
    have hd := dst_facts d h3 h4
    show ((if n = 258 then [symT 285] else [symT (257 + findF lenT n), (n - lenT.getD (findF lenT n) 0, wideL (findF lenT n))]) ++ [revT (findF dstT d) 5, (d - dstT.getD (findF dstT d) 0, wideD (findF dstT d))]).flatMap fldB = symB (257 + findF lenT n) ++ bitsOf (n - lenT.getD (findF lenT n) 0) (lenX.getD (findF lenT n) 0) ++ rev (findF dstT d) 5 ++ bitsOf (d - dstT.getD (findF dstT d) 0) (dstX.getD (findF dstT d) 0)
    rw [List.flatMap_append]
    have e2 : ([revT (findF dstT d) 5, (d - dstT.getD (findF dstT d) 0, wideD (findF dstT d))] : List (Nat × Nat)).flatMap fldB = rev (findF dstT d) 5 ++ bitsOf (d - dstT.getD (findF dstT d) 0) (dstX.getD (findF dstT d) 0) := by
      rw [hd.2.2.2]
      show fldB (revT _ 5) ++ (fldB _ ++ []) = _
      rw [fld_rev, List.append_nil]; rfl
    rw [e2]
    by_cases c : n = 258
    · subst c
      rw [if_pos rfl, len_258]
      show (fldB (symT 285) ++ []) ++ _ = _
      rw [fld_sym, List.append_nil]
      show _ = symB (257 + 28) ++ bitsOf (258 - 258) 0 ++ _ ++ _
      simp [bitsOf]
    · rw [if_neg c]
      have hl := len_facts n h1 (by omega)
      have e1 : ([symT (257 + findF lenT n), (n - lenT.getD (findF lenT n) 0, wideL (findF lenT n))] : List (Nat × Nat)).flatMap fldB = symB (257 + findF lenT n) ++ bitsOf (n - lenT.getD (findF lenT n) 0) (lenX.getD (findF lenT n) 0) := by
        rw [hl.2.2.2]
        show fldB (symT _) ++ (fldB _ ++ []) = _
        rw [fld_sym, List.append_nil]; rfl
      rw [e1]
      simp [List.append_assoc]
theorem toks_ok (B : List Nat) (hB : ∀ x ∈ B, x < 256) (to : Nat) (hto : to ≤ B.length) : ∀ (f i : Nat), ∀ t ∈ toks B to f i, okT t := by
  intro f
  induction f with
  | zero => intro i t h; simp [toks] at h
  | succ f ih =>
    intro i t h
    unfold toks at h
    split at h
    · rename_i hi
      split at h
      · rename_i h3
        rcases List.mem_cons.1 h with rfl | h
        · have h1 := match_le B i to
          have h2 := match_far B i to h3
          exact ⟨h3, by omega, h2.1, h2.2.2⟩
        · exact ih _ t h
      · rcases List.mem_cons.1 h with rfl | h
        · show B.getD i 0 < 256
          rw [List.getD_eq_getElem?_getD, List.getElem?_eq_getElem (by omega)]
          exact hB _ (List.getElem_mem _)
        · exact ih _ t h
    · simp at h
theorem tokens_ok (B : List Nat) (hB : ∀ x ∈ B, x < 256) (i to : Nat) (hto : to ≤ B.length) : ∀ t ∈ tokens B i to, okT t := toks_ok B hB to hto _ i
/-- a block's fields -/
def blkT (last : Nat) (l : List Tok) : List (Nat × Nat) := (last, 1) :: (1, 2) :: (l.flatMap tokT ++ [symT 256])
theorem blk_fields (last : Nat) (l : List Tok) (h : ∀ t ∈ l, okT t) : (blkT last l).flatMap fldB = fixB last l := by
  have e : (l.flatMap tokT).flatMap fldB = l.flatMap tokB := by
    induction l with
    | nil => rfl
    | cons t l ih =>
      rw [List.flatMap_cons, List.flatMap_append, ih (fun x hx => h x (List.mem_cons_of_mem _ hx)), tok_fields t (h t (List.mem_cons_self ..)), List.flatMap_cons]
  unfold blkT fixB
  rw [List.flatMap_cons, List.flatMap_cons, List.flatMap_append, e]
  show bitsOf last 1 ++ (bitsOf 1 2 ++ (_ ++ (fldB (symT 256) ++ []))) = _
  rw [fld_sym, List.append_nil]
  simp [List.append_assoc]
theorem fields_len (l : List (Nat × Nat)) : (l.flatMap fldB).length = (l.map Prod.snd).sum := by
  induction l with
  | nil => rfl
  | cons f l ih => rw [List.flatMap_cons, List.length_append, ih, List.map_cons, List.sum_cons]; unfold fldB; rw [bitsOf_length]
theorem stored_len (last P : Nat) (bs : List Nat) : (storedB last P bs).length = 3 + (al8 (P + 3) - (P + 3)) + 32 + 8 * bs.length := by
  unfold storedB
  have e : (bs.flatMap (fun b => bitsOf b 8)).length = 8 * bs.length := by
    induction bs with
    | nil => rfl
    | cons b bs ih => rw [List.flatMap_cons, List.length_append, ih, bitsOf_length, List.length_cons]; omega
  simp only [List.length_append, bitsOf_length, List.length_replicate, e]
  try omega
theorem part_len (B : List Nat) (S to : Nat) (h : to ≤ B.length) : (part B S to).length = to - S := by
  unfold part; rw [List.length_take, List.length_drop]; omega
end Go.Proofs.Ytighlefajekloaa.DefN

/- The plain mathematics of packing: what pieces make of a writer; however bytes are written, the same comes out. Nothing of a program is named here. -/
set_option linter.unusedVariables false
set_option linter.unusedSimpArgs false
namespace Go.Proofs.Ytighlefajekloaa.DefO
open BitsM DefM DefN
/-! ### only what lies ahead of a block's end counts -/
def Pre (A B : List Nat) (n : Nat) : Prop := ∀ k, k < n → A.getD k 0 = B.getD k 0
theorem com_pre {A B : List Nat} {n : Nat} (h : Pre A B n) : ∀ (m p i : Nat), p + m ≤ n → i + m ≤ n → com A p i m = com B p i m := by
  intro m
  induction m with
  | zero => intro p i _ _; rfl
  | succ m ih =>
    intro p i h1 h2
    unfold com
    rw [h p (by omega), h i (by omega), ih (p + 1) (i + 1) (by omega) (by omega)]
theorem matL_pre {A B : List Nat} {n : Nat} (h : Pre A B n) (i m : Nat) (hi : i + m ≤ n) : ∀ (ds : List Nat) (s : Nat × Nat), matL A i m ds s = matL B i m ds s := by
  intro ds
  induction ds with
  | nil => intro s; rfl
  | cons d ds ih =>
    intro s
    show matL A i m ds (upd s (com A (i - d) i m) d) = matL B i m ds (upd s (com B (i - d) i m) d)
    rw [com_pre h m (i - d) i (by omega) hi, ih]
theorem match_pre {A B : List Nat} {to : Nat} (h : Pre A B to) (i : Nat) (hi : i ≤ to) : matchF A i to = matchF B i to := by
  unfold matchF
  rw [mat_list, mat_list]
  exact matL_pre h i _ (by omega) _ _
theorem toks_pre {A B : List Nat} {to : Nat} (h : Pre A B to) : ∀ (f i : Nat), toks A to f i = toks B to f i := by
  intro f
  induction f with
  | zero => intro i; rfl
  | succ f ih =>
    intro i
    unfold toks
    by_cases hi : i < to
    · rw [if_pos hi, if_pos hi, match_pre h i (by omega), ih, ih, h i hi]
    · rw [if_neg hi, if_neg hi]
theorem tokens_pre {A B : List Nat} {to : Nat} (h : Pre A B to) (i : Nat) : tokens A i to = tokens B i to := toks_pre h _ i
theorem pre_append (B b : List Nat) (n : Nat) (hn : n ≤ B.length) : Pre B (B ++ b) n := by
  intro k hk
  rw [List.getD_eq_getElem?_getD, List.getD_eq_getElem?_getD, List.getElem?_append_left (by omega)]
theorem part_append (B b : List Nat) (S to : Nat) (hn : to ≤ B.length) : part B S to = part (B ++ b) S to := by
  unfold part
  by_cases h : S ≤ B.length
  · rw [List.drop_append_of_le_length h, List.take_append_of_le_length (by rw [List.length_drop]; omega)]
  · rw [show to - S = 0 by omega, List.take_zero, List.take_zero]
theorem blk_append (B b : List Nat) (S to last : Nat) (L : List Bool) (hn : to ≤ B.length) : blkB B S to last L = blkB (B ++ b) S to last L := by
  unfold blkB
  rw [part_append B b S to hn, tokens_pre (pre_append B b to hn) S]
/-! ### whole blocks -/
def chain (A : List Nat) : Nat → List Bool
  | 0 => []
  | k + 1 => blkB A (4096 * k) (4096 * (k + 1)) 0 (chain A k)
theorem chain_append (B b : List Nat) : ∀ k, 4096 * k ≤ B.length → chain B k = chain (B ++ b) k := by
  intro k
  induction k with
  | zero => intro _; rfl
  | succ k ih =>
    intro h
    show blkB B _ _ 0 (chain B k) = blkB (B ++ b) _ _ 0 (chain (B ++ b) k)
    rw [ih (by omega), blk_append B b _ _ _ _ h]
/-- how many blocks are whole, and behind them something is left -/
def nb (n : Nat) : Nat := (n - 1) / 4096
theorem nb_le (n : Nat) : 4096 * nb n ≤ n := by unfold nb; omega
theorem nb_rest (n : Nat) : n - 4096 * nb n ≤ 4096 := by unfold nb; omega
theorem nb_more (n k : Nat) (h : 4096 < n - 4096 * k) : k < nb n := by unfold nb; omega
theorem nb_done (n k : Nat) (hk : 4096 * k ≤ n) (h : ¬ 4096 < n - 4096 * k) (hkn : k ≤ nb n) : k = nb n := by unfold nb at *; omega
theorem nb_mono {n m : Nat} (h : n ≤ m) : nb n ≤ nb m := Nat.div_le_div_right (by omega)
/-- the bits, when some bytes are written -/
def bitsW (B : List Nat) : List Bool := chain B (nb B.length)
def finL (B : List Nat) : List Bool := blkB B (4096 * nb B.length) B.length 1 (bitsW B)
def alig (L : List Bool) : List Bool := L ++ List.replicate (al8 L.length - L.length) false
def endL (B : List Nat) : List Bool := alig (finL B)
/-- the bytes behind T that are whole -/
def outN (L : List Bool) (T : Nat) : List Nat := bytesN (num L / 256 ^ T) (L.length / 8 - T)
def wholeF (B : List Nat) : List Nat := outN (endL B) 0
/-! ### one is ahead of the other -/
def Ahead (L M : List Bool) : Prop := ∃ R, M = L ++ R
theorem Ahead.refl (L : List Bool) : Ahead L L := ⟨[], by simp⟩
theorem Ahead.trans {L M K : List Bool} (h1 : Ahead L M) (h2 : Ahead M K) : Ahead L K := by
  obtain ⟨R, rfl⟩ := h1
  obtain ⟨R2, rfl⟩ := h2
  exact ⟨R ++ R2, by simp⟩
theorem Ahead.len {L M : List Bool} (h : Ahead L M) : L.length ≤ M.length := by obtain ⟨R, rfl⟩ := h; simp
theorem blk_ahead (B : List Nat) (S to last : Nat) (L : List Bool) : Ahead L (blkB B S to last L) := ⟨_, rfl⟩
theorem chain_ahead (A : List Nat) (k j : Nat) : Ahead (chain A k) (chain A (k + j)) := by
  induction j with
  | zero => exact Ahead.refl _
  | succ j ih => exact ih.trans (blk_ahead _ _ _ _ _)
theorem bitsW_ahead (B b : List Nat) : Ahead (bitsW B) (bitsW (B ++ b)) := by
  unfold bitsW
  rw [chain_append B b _ (nb_le _)]
  have h := nb_mono (n := B.length) (m := (B ++ b).length) (by simp)
  obtain ⟨j, hj⟩ := Nat.exists_eq_add_of_le h
  rw [hj]
  exact chain_ahead _ _ _
theorem endL_ahead (B : List Nat) : Ahead (bitsW B) (endL B) := (blk_ahead B _ _ 1 (bitsW B)).trans ⟨_, rfl⟩
theorem num_app (l m : List Bool) : num (l ++ m) = num l + 2 ^ l.length * num m := by
  induction l with
  | nil => simp [num]
  | cons b l ih =>
    show b.toNat + 2 * num (l ++ m) = b.toNat + 2 * num l + 2 ^ (l.length + 1) * num m
    rw [ih, Nat.pow_succ, Nat.mul_add, ← Nat.mul_assoc, Nat.mul_comm 2 (2 ^ l.length)]
    omega
theorem p256 (a : Nat) : 256 ^ a = 2 ^ (8 * a) := by rw [show (256 : Nat) = 2 ^ 8 from rfl, ← Nat.pow_mul]
theorem bytesN_ext (V W c : Nat) (h : ∀ i, i < c → V / 256 ^ i % 256 = W / 256 ^ i % 256) : bytesN V c = bytesN W c := by
  unfold bytesN
  exact List.map_congr_left fun i hi => h i (List.mem_range.1 hi)
theorem byte_ahead {L M : List Bool} (h : Ahead L M) (i : Nat) (hi : 8 * (i + 1) ≤ L.length) : num M / 256 ^ i % 256 = num L / 256 ^ i % 256 := by
  obtain ⟨R, rfl⟩ := h
  rw [num_app, p256]
  obtain ⟨c, hc⟩ := Nat.exists_eq_add_of_le hi
  rw [show L.length = 8 * i + (8 + c) by omega, Nat.pow_add, Nat.mul_assoc, Nat.add_mul_div_left _ _ (Nat.pow_pos (by omega)), Nat.pow_add, show (2 : Nat) ^ 8 = 256 from rfl, Nat.mul_assoc, Nat.add_mul_mod_self_left]
theorem bytesN_split (V a b : Nat) : bytesN V (a + b) = bytesN V a ++ bytesN (V / 256 ^ a) b := by
  unfold bytesN
  rw [List.range_add, List.map_append, List.map_map]
  congr 1
  apply List.map_congr_left
  intro i _
  simp only [Function.comp_apply]
  rw [Nat.div_div_eq_div_mul, ← Nat.pow_add]
/-- what was told, and what comes then, are all of it -/
theorem out_append {L M : List Bool} (h : Ahead L M) : outN L 0 ++ outN M (L.length / 8) = outN M 0 := by
  unfold outN
  have hl := h.len
  rw [Nat.pow_zero, Nat.div_one, Nat.div_one, Nat.sub_zero, Nat.sub_zero]
  have e : M.length / 8 = L.length / 8 + (M.length / 8 - L.length / 8) := by have := Nat.div_le_div_right (c := 8) hl; omega
  conv => rhs; rw [e, bytesN_split]
  congr 1
  refine (bytesN_ext _ _ _ fun i hi => ?_).symm
  exact byte_ahead h i (by omega)
/-! ### never much more than the bytes -/
theorem al8_ge (n : Nat) : n ≤ al8 n ∧ al8 n ≤ n + 7 ∧ al8 n % 8 = 0 := by unfold al8; omega
theorem blk_len (B : List Nat) (S to last : Nat) (L : List Bool) (hto : to ≤ B.length) (hS : S ≤ to) : al8 (blkB B S to last L).length ≤ al8 L.length + 40 + 8 * (to - S) := by
  have h : (blkB B S to last L).length ≤ L.length + (storedB last L.length (part B S to)).length := by
    unfold blkB
    rw [List.length_append]
    split <;> omega
  rw [stored_len, part_len B S to hto] at h
  unfold al8 at *
  omega
theorem chain_len (A : List Nat) : ∀ k, 4096 * k ≤ A.length → al8 (chain A k).length ≤ 40 * k + 8 * (4096 * k) := by
  intro k
  induction k with
  | zero => intro _; show al8 0 ≤ _; decide
  | succ k ih =>
    intro h
    have h1 := ih (by omega)
    have h2 := blk_len A (4096 * k) (4096 * (k + 1)) 0 (chain A k) h (by omega)
    show al8 (blkB A _ _ 0 (chain A k)).length ≤ _
    omega
theorem fin_len (B : List Nat) : al8 (finL B).length ≤ 40 * (nb B.length + 1) + 8 * B.length := by
  have h1 := chain_len B (nb B.length) (nb_le _)
  have h2 := blk_len B (4096 * nb B.length) B.length 1 (bitsW B) (Nat.le_refl _) (nb_le _)
  have h3 := nb_le B.length
  unfold finL
  unfold bitsW at *
  omega
theorem whole_len (B : List Nat) : (wholeF B).length ≤ B.length + 5 * (nb B.length + 1) := by
  have h := fin_len B
  unfold wholeF outN endL alig
  rw [bytesN_length, List.length_append, List.length_replicate]
  have := al8_ge (finL B).length
  omega
end Go.Proofs.Ytighlefajekloaa.DefO

/- The chapter's examples of packing. Plain. -/
set_option linter.unusedVariables false
set_option linter.unusedSimpArgs false
namespace Go.Proofs.Ytighlefajekloaa.DefP
open BitsM DefM DefN DefO
set_option maxRecDepth 100000 in
theorem whole_0 : wholeF [] = [3, 0] := by decide +kernel
set_option maxRecDepth 100000 in
theorem whole_a : wholeF [97] = [75, 4, 0] := by decide +kernel
set_option maxRecDepth 100000 in
theorem whole_a10 : wholeF (List.replicate 10 97) = [75, 132, 3, 0] := by decide +kernel
/-! all bytes, once -/
def each : List Nat := List.range 256
theorem each_at (k : Nat) (h : k < 256) : each.getD k 0 = k := by
  unfold each
  rw [List.getD_eq_getElem?_getD, List.getElem?_range h]; rfl
theorem each_com (p i m : Nat) (h : p < i) (hi : i < 256) : com each p i m = 0 := by
  cases m with
  | zero => rfl
  | succ m => unfold com; rw [each_at p (by omega), each_at i hi, if_neg (by omega)]
theorem each_mat (i m : Nat) (hi : i < 256) : ∀ (ds : List Nat), (∀ d ∈ ds, 1 ≤ d ∧ d ≤ i) → matL each i m ds (0, 0) = (0, 0) := by
  intro ds
  induction ds with
  | nil => intro _; rfl
  | cons d ds ih =>
    intro h
    have hd := h d (List.mem_cons_self ..)
    show matL each i m ds (upd (0, 0) (com each (i - d) i m) d) = _
    rw [each_com (i - d) i m (by omega) hi]
    show matL each i m ds (0, 0) = _
    exact ih (fun x hx => h x (List.mem_cons_of_mem _ hx))
theorem each_match (i to : Nat) (hi : i < 256) : matchF each i to = (0, 0) := by
  unfold matchF
  rw [mat_list]
  refine each_mat i _ hi _ fun d hd => ?_
  rw [List.mem_range'_1] at hd
  omega
theorem each_toks : ∀ (f i : Nat), i + f = 256 → toks each 256 f i = (List.range' i f).map .lit := by
  intro f
  induction f with
  | zero => intro i _; rfl
  | succ f ih =>
    intro i h
    unfold toks
    rw [if_pos (by omega), each_match i 256 (by omega), if_neg (by decide), ih (i + 1) (by omega), each_at i (by omega), List.range'_succ]
    rfl
set_option maxRecDepth 100000 in
theorem whole_each : (wholeF each).length = 261 ∧ (wholeF each).take 5 = [1, 0, 1, 255, 254] ∧ (wholeF each).drop 5 = each := by
  have e1 : finL each = storedB 1 0 each := by
    have hn : nb each.length = 0 := by decide
    have hl : each.length = 256 := by decide
    unfold finL bitsW
    rw [hn, hl]
    show blkB each 0 256 1 [] = _
    unfold blkB
    have ht : tokens each 0 256 = (List.range' 0 256).map .lit := each_toks 256 0 rfl
    have hp : part each 0 256 = each := by decide +kernel
    rw [ht, hp]
    have h1 : (storedB 1 ([] : List Bool).length each).length = 2088 := by decide +kernel
    have h2 : (fixB 1 ((List.range' 0 256).map .lit)).length = 2170 := by decide +kernel
    rw [h1, h2]
    rfl
  unfold wholeF endL
  rw [e1]
  decide +kernel
end Go.Proofs.Ytighlefajekloaa.DefP
