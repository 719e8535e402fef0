/- A match just as far back as may be, and one byte farther: the lengths of what is packed. Plain. -/
import Derived.Test.YtcchekkedgajpaaDm
set_option linter.unusedVariables false
set_option linter.unusedSimpArgs false
namespace Go.Proofs.Ytcchekkedgajpaa.DefQ
open BitsM DefM DefN DefO
/-- the letters q w e r t y u i o p -/
def qL : List Nat := [113, 119, 101, 114, 116, 121, 117, 105, 111, 112]
/-- the row's bytes: the letters, then what has the period 89 -/
def farv (p : Nat) : Nat := if p < 10 then qL.getD p 0 else 128 + p * p % 89
def farL (n : Nat) : List Nat := (List.range n).map farv
theorem farL_len (n : Nat) : (farL n).length = n := by simp [farL]
theorem farL_at (n p : Nat) (h : p < n) : (farL n).getD p 0 = farv p := by
  unfold farL
  rw [List.getD_eq_getElem?_getD, List.getElem?_map, List.getElem?_range h]; rfl
theorem farL_next (n : Nat) : farL (n + 1) = farL n ++ [farv n] := by unfold farL; rw [List.range_succ, List.map_append]; rfl
theorem far_small (p : Nat) (h : p < 10) : farv p < 128 := by
  have : ∀ p, p < 10 → farv p < 128 := by decide
  exact this p h
theorem far_great (p : Nat) (h : 10 ≤ p) : 128 ≤ farv p := by unfold farv; rw [if_neg (by omega)]; omega
theorem far_lt (p : Nat) : farv p < 217 := by
  by_cases h : p < 10
  · have := far_small p h; omega
  · unfold farv; rw [if_neg h]; have := Nat.mod_lt (p * p) (show 0 < 89 by decide); omega
theorem far_apart (p i : Nat) (h : p < i) (hi : i < 10) : farv p ≠ farv i := by
  have : ∀ i, i < 10 → ∀ p, p < i → farv p ≠ farv i := by decide
  exact this i hi p h
theorem sq_mod (p : Nat) : p * p % 89 = (p % 89) * (p % 89) % 89 := Nat.mul_mod p p 89
theorem far_period (p : Nat) (h : 10 ≤ p) : farv (p + 89) = farv p := by
  unfold farv
  rw [if_neg (by omega), if_neg (by omega), sq_mod (p + 89), sq_mod p, Nat.add_mod_right]
theorem sq_two : ∀ x, x < 89 → ∀ y, y < 89 → x ≠ y → x * x % 89 = y * y % 89 → ((x + 1) % 89) * ((x + 1) % 89) % 89 ≠ ((y + 1) % 89) * ((y + 1) % 89) % 89 := by decide +kernel
/-- no two bytes behind each other stand a second time within less than a period -/
theorem far_two (p i : Nat) (hp : 10 ≤ p) (h1 : p < i) (h2 : i < p + 89) (e : farv p = farv i) : farv (p + 1) ≠ farv (i + 1) := by
  unfold farv at *
  rw [if_neg (by omega), if_neg (by omega)] at e
  rw [if_neg (by omega), if_neg (by omega)]
  have hne : p % 89 ≠ i % 89 := by omega
  have e2 : p * p % 89 = i * i % 89 := by omega
  rw [sq_mod p, sq_mod i] at e2
  have h := sq_two (p % 89) (Nat.mod_lt _ (by decide)) (i % 89) (Nat.mod_lt _ (by decide)) hne e2
  intro e3
  have e4 : (p + 1) * (p + 1) % 89 = (i + 1) * (i + 1) % 89 := by omega
  rw [sq_mod (p + 1), sq_mod (i + 1)] at e4
  apply h
  rw [show (p % 89 + 1) % 89 = (p + 1) % 89 by omega, show (i % 89 + 1) % 89 = (i + 1) % 89 by omega]
  exact e4
/-- a list whose first n bytes are the row's -/
def Far (A : List Nat) (n : Nat) : Prop := ∀ p, p < n → A.getD p 0 = farv p
section
variable {A : List Nat} {n : Nat}
/-- within less than a period no two bytes are alike -/
theorem com_less (h : Far A n) (i d m : Nat) (hd : 1 ≤ d) (hdi : d ≤ i) (hi : i + m ≤ n) (hs : d < 89 ∨ i - d < 10) : com A (i - d) i m ≤ 1 := by
  cases m with
  | zero => exact Nat.zero_le _
  | succ m =>
    unfold com
    rw [h (i - d) (by omega), h i (by omega)]
    split
    · rename_i e
      by_cases hp : i - d < 10
      · exfalso
        by_cases hi2 : i < 10
        · exact far_apart _ _ (by omega) hi2 e
        · have a := far_small _ hp
          have b := far_great i (by omega)
          omega
      · have hd2 : d < 89 := by omega
        cases m with
        | zero => exact Nat.le_refl _
        | succ m =>
          unfold com
          rw [h (i - d + 1) (by omega), h (i + 1) (by omega), if_neg (far_two (i - d) i (by omega) (by omega) (by omega) e)]
          exact Nat.le_refl _
    · exact Nat.zero_le _
theorem com_full (h : Far A n) (i m : Nat) (hi : 99 ≤ i) (hn : i + m ≤ n) : com A (i - 89) i m = m := by
  refine com_unique A m _ _ m (Nat.le_refl _) (fun k hk => ?_) (fun h => by omega)
  rw [h (i - 89 + k) (by omega), h (i + k) (by omega), show i + k = (i - 89 + k) + 89 by omega]
  exact (far_period _ (by omega)).symm
theorem matL_small (B : List Nat) (i m c : Nat) : ∀ (ds : List Nat) (s : Nat × Nat), s.1 ≤ c → (∀ d ∈ ds, com B (i - d) i m ≤ c) → (matL B i m ds s).1 ≤ c := by
  intro ds
  induction ds with
  | nil => intro s h _; exact h
  | cons d ds ih =>
    intro s h hc
    refine ih _ ?_ (fun x hx => hc x (List.mem_cons_of_mem _ hx))
    show (upd s (com B (i - d) i m) d).1 ≤ c
    unfold upd
    split
    · exact hc d (List.mem_cons_self ..)
    · exact h
theorem matL_append (B : List Nat) (i m : Nat) (d1 d2 : List Nat) (s : Nat × Nat) : matL B i m (d1 ++ d2) s = matL B i m d2 (matL B i m d1 s) := by unfold matL; rw [List.foldl_append]
theorem match_period (h : Far A n) (i to : Nat) (hi : 99 ≤ i) (hto : to ≤ n) (h3 : i + 3 ≤ to) : matchF A i to = (min 258 (to - i), 89) := by
  unfold matchF
  rw [mat_list]
  obtain ⟨m, hm⟩ : ∃ m, m = min 258 (to - i) := ⟨_, rfl⟩
  rw [← hm]
  obtain ⟨c, hc⟩ : ∃ c, min i 32768 = 88 + (1 + c) := ⟨min i 32768 - 89, by omega⟩
  have e : List.range' 1 (min i 32768) = List.range' 1 88 ++ (89 :: List.range' 90 c) := by
    rw [hc, ← List.range'_append_1, ← List.range'_append_1]
    rfl
  rw [e, matL_append]
  have h1 : (matL A i m (List.range' 1 88) (0, 0)).1 ≤ 1 := matL_small A i m 1 _ _ (by decide) fun d hd => by
    rw [List.mem_range'_1] at hd
    exact com_less h i d m (by omega) (by omega) (by omega) (.inl (by omega))
  generalize matL A i m (List.range' 1 88) (0, 0) = s at h1
  show matL A i m _ (upd s (com A (i - 89) i m) 89) = _
  rw [com_full h i m hi (by omega)]
  have e2 : upd s m 89 = (m, 89) := by unfold upd; rw [if_pos (by omega)]
  rw [e2]
  exact matL_full A i m _ _ (Nat.le_refl _)
theorem match_first (h : Far A n) (i to : Nat) (hi : i < 99) (hto : to ≤ n) (h3 : i < to) : ¬ 3 ≤ (matchF A i to).1 := by
  have h1 : (matchF A i to).1 ≤ 1 := by
    unfold matchF
    rw [mat_list]
    refine matL_small A i _ 1 _ _ (by decide) fun d hd => ?_
    rw [List.mem_range'_1] at hd
    exact com_less h i d _ (by omega) (by omega) (by omega) (by omega)
  omega
/-- a stretch of the row -/
theorem tokens_row (h : Far A n) (to r : Nat) (hto : to ≤ n) (hr : 3 ≤ r ∧ r ≤ 258) : ∀ (j i : Nat), 99 ≤ i → to = i + 258 * j + r → tokens A i to = List.replicate j (.mat 258 89) ++ [.mat r 89] := by
  intro j
  induction j with
  | zero =>
    intro i hi e
    have hm := match_period h i to hi hto (by omega)
    rw [tokens_mat A i to (by omega) (by rw [hm]; show 3 ≤ min 258 (to - i); omega), hm]
    have e2 : min 258 (to - i) = r := by omega
    simp only [e2]
    rw [tokens_end A (i + r) to (by omega)]; rfl
  | succ j ih =>
    intro i hi e
    have hm := match_period h i to hi hto (by omega)
    rw [tokens_mat A i to (by omega) (by rw [hm]; show 3 ≤ min 258 (to - i); omega), hm]
    have e2 : min 258 (to - i) = 258 := by omega
    simp only [e2]
    rw [ih (i + 258) (by omega) (by omega), List.replicate_succ]; rfl
theorem tokens_first (h : Far A n) (to : Nat) (hto : to ≤ n) (ht : 99 ≤ to) : ∀ (k i : Nat), i + k = 99 → tokens A i to = (List.range' i k).map (fun p => .lit (farv p)) ++ tokens A 99 to := by
  intro k
  induction k with
  | zero => intro i e; rw [show i = 99 by omega]; rfl
  | succ k ih =>
    intro i e
    rw [tokens_lit A i to (by omega) (match_first h i to (by omega) hto (by omega)), ih (i + 1) (by omega), h i (by omega), List.range'_succ]
    rfl
/-! ### lengths -/
def fixN (l : List Tok) : Nat := 10 + (l.map fun t => (tokB t).length).sum
theorem fix_len (last : Nat) (l : List Tok) : (fixB last l).length = fixN l := by
  unfold fixB fixN
  have e : (l.flatMap tokB).length = (l.map fun t => (tokB t).length).sum := by
    induction l with
    | nil => rfl
    | cons t l ih => rw [List.flatMap_cons, List.length_append, ih, List.map_cons, List.sum_cons]
  rw [List.length_append, List.length_append, List.length_append, bitsOf_length, bitsOf_length, e, symB_len, show (symF 256).2 = 7 by decide]
  omega
theorem blk_fix (B : List Nat) (S to last : Nat) (L : List Bool) (hto : to ≤ B.length) (h : fixN (tokens B S to) ≤ 35 + 8 * (to - S)) : (blkB B S to last L).length = L.length + fixN (tokens B S to) := by
  unfold blkB
  rw [stored_len, part_len B S to hto, fix_len, if_neg (by omega), List.length_append, fix_len]
theorem block_0 (h : Far A n) (hn : 32768 ≤ n) (hl : n ≤ A.length) : (chain A 1).length = 1166 := by
  show (blkB A (4096 * 0) (4096 * (0 + 1)) 0 []).length = 1166
  have et : tokens A 0 4096 = (List.range' 0 99).map (fun p => .lit (farv p)) ++ (List.replicate 15 (.mat 258 89) ++ [.mat 127 89]) := by
    rw [tokens_first h 4096 (by omega) (by omega) 99 0 rfl, tokens_row h 4096 127 (by omega) (by omega) 15 99 (by omega) rfl]
  have e2 : fixN (tokens A 0 4096) = 1166 := by rw [et]; decide +kernel
  have e3 := blk_fix A (4096 * 0) (4096 * (0 + 1)) 0 [] (by omega) (by show fixN (tokens A 0 4096) ≤ _; rw [e2]; omega)
  rw [e3]
  show 0 + fixN (tokens A 0 4096) = 1166
  rw [e2]
theorem row_fix (h : Far A n) (S : Nat) (hS : 99 ≤ S) (hn : S + 4096 ≤ n) : fixN (tokens A S (S + 4096)) = 303 := by
  rw [tokens_row h (S + 4096) 226 hn (by omega) 15 S hS (by omega)]
  decide +kernel
theorem block_k (h : Far A n) (hn : 32768 ≤ n) (hl : n ≤ A.length) (k : Nat) (hk : k ≤ 7) : (chain A (k + 1)).length = 1166 + 303 * k := by
  induction k with
  | zero => exact block_0 h hn hl
  | succ k ih =>
    have h1 := ih (by omega)
    show (blkB A (4096 * (k + 1)) (4096 * (k + 1 + 1)) 0 (chain A (k + 1))).length = _
    have e2 := row_fix h (4096 * (k + 1)) (by omega) (by omega)
    rw [show 4096 * (k + 1) + 4096 = 4096 * (k + 1 + 1) by omega] at e2
    rw [blk_fix A _ _ 0 _ (by omega) (by rw [e2]; omega), h1, e2]
    omega
theorem whole_length (B : List Nat) (c : Nat) (h : (finL B).length = c) : (wholeF B).length = al8 c / 8 := by
  unfold wholeF outN endL alig
  rw [bytesN_length, List.length_append, List.length_replicate, h]
  have := al8_ge c
  omega
end
theorem far_row (n : Nat) : Far (farL n) n := fun p hp => farL_at n p hp
theorem far_app (n : Nat) (b : List Nat) : Far (farL n ++ b) n := fun p hp => by
  rw [← pre_append (farL n) b n (by rw [farL_len]; exact Nat.le_refl _) p hp]
  exact farL_at n p hp
theorem app_at (n k : Nat) (hk : k < 10) : (farL n ++ qL).getD (n + k) 0 = farv k := by
  rw [List.getD_eq_getElem?_getD, List.getElem?_append_right (by rw [farL_len]; omega), farL_len, Nat.add_sub_cancel_left]
  have : ∀ k, k < 10 → qL[k]?.getD 0 = farv k := by decide
  exact this k hk
theorem app_len (n : Nat) : (farL n ++ qL).length = n + 10 := by rw [List.length_append, farL_len]; rfl
theorem fin_of (B : List Nat) (k c d s e : Nat) (hl : B.length = e) (hk : nb e = k) (hs : 4096 * k = s) (hc : (chain B k).length = c) (hd : fixN (tokens B s e) = d) (h : d ≤ 35 + 8 * (e - s)) : (finL B).length = c + d := by
  subst hl hk hs hc hd
  exact blk_fix B _ _ 1 _ (Nat.le_refl _) h
/-- the row alone, with 32768 bytes -/
theorem len_row (B : List Nat) (hF : Far B 32768) (hl : B.length = 32768) : (wholeF B).length = 411 := by
  refine whole_length B 3287 ?_
  have hd : fixN (tokens B 28672 32768) = 303 := row_fix hF 28672 (by omega) (by omega)
  have hc : (chain B 7).length = 2984 := block_k hF (by omega) (by omega) 6 (by omega)
  exact fin_of B 7 2984 303 28672 32768 hl rfl rfl hc hd (by omega)
theorem len_a : (wholeF (farL 32768)).length = 411 := len_row _ (far_row 32768) (farL_len 32768)
theorem com_head (B : List Nat) (p i m : Nat) (h : B.getD p 0 ≠ B.getD i 0) : com B p i m = 0 := by
  cases m with
  | zero => rfl
  | succ m => unfold com; rw [if_neg h]
theorem matL_none (B : List Nat) (i m : Nat) : ∀ (ds : List Nat) (s : Nat × Nat), (∀ d ∈ ds, com B (i - d) i m = 0) → matL B i m ds s = s := by
  intro ds
  induction ds with
  | nil => intro s _; rfl
  | cons d ds ih =>
    intro s h
    show matL B i m ds (upd s (com B (i - d) i m) d) = s
    rw [h d (List.mem_cons_self ..)]
    have e : upd s 0 d = s := by unfold upd; rw [if_neg (by omega)]
    rw [e]
    exact ih s (fun x hx => h x (List.mem_cons_of_mem _ hx))
theorem range_last (n : Nat) : List.range' 1 (n + 1) = List.range' 1 n ++ [n + 1] := by rw [List.range'_concat]; congr 2; omega
theorem match_back (n : Nat) (h1 : 10 ≤ n) (h2 : n ≤ 32768) : matchF (farL n ++ qL) n (n + 10) = (10, n) := by
  have hF := far_app n qL
  unfold matchF
  rw [mat_list, show min 258 (n + 10 - n) = 10 by omega, show min n 32768 = n by omega]
  obtain ⟨c, rfl⟩ : ∃ c, n = c + 1 := ⟨n - 1, by omega⟩
  rw [range_last, matL_append]
  have hi : (farL (c + 1) ++ qL).getD (c + 1) 0 = 113 := app_at (c + 1) 0 (by decide)
  have e0 : matL (farL (c + 1) ++ qL) (c + 1) 10 (List.range' 1 c) (0, 0) = (0, 0) := matL_none _ _ _ _ _ (fun d hd => by
    rw [List.mem_range'_1] at hd
    refine com_head _ _ _ _ ?_
    rw [hi, hF _ (by omega)]
    by_cases hp : c + 1 - d < 10
    · have := far_apart 0 (c + 1 - d) (by omega) hp
      exact fun e => this (by rw [e]; rfl)
    · have := far_great (c + 1 - d) (by omega); omega)
  rw [e0]
  show upd (0, 0) (com (farL (c + 1) ++ qL) (c + 1 - (c + 1)) (c + 1) 10) (c + 1) = _
  have e : com (farL (c + 1) ++ qL) (c + 1 - (c + 1)) (c + 1) 10 = 10 := by
    refine com_unique _ 10 _ _ 10 (by omega) (fun k hk => ?_) (fun h => by omega)
    rw [hF _ (by omega), app_at (c + 1) k hk]
    rw [show c + 1 - (c + 1) + k = k by omega]
  rw [e]
  rfl
/-- ... and the letters once more: just as far back as may be -/
theorem len_back (B : List Nat) (hF : Far B 32768) (hl : B.length = 32778) (hm : matchF B 32768 32778 = (10, 32768)) : (wholeF B).length = 416 := by
  refine whole_length B 3322 ?_
  have ht : tokens B 32768 32778 = [.mat 10 32768] := by
    rw [tokens_mat _ _ _ (by omega) (by rw [hm]; decide), hm]
    simp only
    rw [tokens_end _ _ _ (by omega)]
  have hd : fixN (tokens B 32768 32778) = 35 := by rw [ht]; decide +kernel
  have hc : (chain B 8).length = 3287 := block_k hF (by omega) (by omega) 7 (by omega)
  exact fin_of B 8 3287 35 32768 32778 hl rfl rfl hc hd (by omega)
theorem len_b : (wholeF (farL 32768 ++ qL)).length = 416 := len_back _ (far_app 32768 qL) (app_len 32768) (match_back 32768 (by omega) (by omega))
/-- one byte farther -/
theorem far_206 : farv 32768 = 206 := by decide +kernel
theorem len_more (B : List Nat) (hF : Far B 32769) (hl : B.length = 32769) : (wholeF B).length = 414 := by
  refine whole_length B 3306 ?_
  have h3 : ¬ 3 ≤ (matchF B 32768 32769).1 := by have := match_le B 32768 32769; omega
  have ht : tokens B 32768 32769 = [.lit 206] := by
    rw [tokens_lit _ _ _ (by omega) h3, tokens_end _ _ _ (by omega), hF _ (by omega), far_206]
  have hd : fixN (tokens B 32768 32769) = 19 := by rw [ht]; decide +kernel
  have hc : (chain B 8).length = 3287 := block_k hF (by omega) (by omega) 7 (by omega)
  exact fin_of B 8 3287 19 32768 32769 hl rfl rfl hc hd (by omega)
theorem len_c : (wholeF (farL 32769)).length = 414 := len_more _ (far_row 32769) (farL_len 32769)
theorem tokens_lits (B : List Nat) (to : Nat) : ∀ (k i : Nat), i + k = to → (∀ j, i ≤ j → j < to → ¬ 3 ≤ (matchF B j to).1) → tokens B i to = (List.range' i k).map fun j => .lit (B.getD j 0) := by
  intro k
  induction k with
  | zero => intro i e _; rw [tokens_end _ _ _ (by omega)]; rfl
  | succ k ih =>
    intro i e h
    rw [tokens_lit _ _ _ (by omega) (h i (Nat.le_refl _) (by omega)), ih (i + 1) (by omega) (fun j h1 h2 => h j (by omega) h2), List.range'_succ]
    rfl
theorem far_letters (B : List Nat) (hF : Far B 32769) (hq : ∀ k, k < 10 → B.getD (32769 + k) 0 = farv k) (j : Nat) (h1 : 32768 ≤ j) (h2 : j < 32779) : ¬ 3 ≤ (matchF B j 32779).1 := by
  have h4 : (matchF B j 32779).1 ≤ 1 := by
    unfold matchF
    rw [mat_list]
    generalize min 258 (32779 - j) = m
    refine matL_small _ j _ 1 _ _ (by decide) fun d hd => ?_
    rw [List.mem_range'_1] at hd
    by_cases hj : j = 32768
    · -- the row's last byte: a letter is behind it
      subst hj
      cases m with
      | zero => exact Nat.zero_le _
      | succ m =>
        have e0 := com_head B (32768 - d + 1) (32768 + 1) m (by
          have q0 := hq 0 (by decide)
          have p0 := hF (32768 - d + 1) (by omega)
          rw [p0, show 32768 + 1 = 32769 + 0 by rfl, q0]
          by_cases hp : 32768 - d + 1 < 10
          · exact fun e => far_apart 0 (32768 - d + 1) (by omega) hp e.symm
          · have a := far_great (32768 - d + 1) (by omega)
            have b := far_small 0 (by decide)
            omega)
        unfold com
        rw [e0]
        split <;> omega
    · -- a letter: it stands no second time near enough
      obtain ⟨k, rfl⟩ : ∃ k, j = 32769 + k := ⟨j - 32769, by omega⟩
      have qk := hq k (by omega)
      rw [com_head B _ _ m (by
        rw [qk]
        by_cases hp : 32769 + k - d < 32769
        · rw [hF _ hp]
          by_cases hp2 : 32769 + k - d < 10
          · exact fun e => far_apart k (32769 + k - d) (by omega) hp2 e.symm
          · have a := far_great (32769 + k - d) (by omega)
            have b := far_small k (by omega)
            omega
        · obtain ⟨k2, e2⟩ : ∃ k2, 32769 + k - d = 32769 + k2 := ⟨32769 + k - d - 32769, by omega⟩
          rw [e2, hq k2 (by omega)]
          exact far_apart k2 k (by omega) (by omega))]
      exact Nat.zero_le _
  omega
theorem letters (B : List Nat) (hq : ∀ k, k < 10 → B.getD (32769 + k) 0 = farv k) : ∀ (k i : Nat), i + k = 10 → (List.range' (32769 + i) k).map (fun j => Tok.lit (B.getD j 0)) = (List.range' i k).map fun j => Tok.lit (farv j) := by
  intro k
  induction k with
  | zero => intro i _; rfl
  | succ k ih =>
    intro i hi
    rw [List.range'_succ, List.range'_succ, List.map_cons, List.map_cons, hq i (by omega), show 32769 + i + 1 = 32769 + (i + 1) by omega, ih (i + 1) (by omega)]
theorem len_none (B : List Nat) (hF : Far B 32769) (hl : B.length = 32779) (hq : ∀ k, k < 10 → B.getD (32769 + k) 0 = farv k) : (wholeF B).length = 424 := by
  refine whole_length B 3386 ?_
  have ht : tokens B 32768 32779 = .lit 206 :: (List.range' 0 10).map fun j => Tok.lit (farv j) := by
    rw [tokens_lit _ _ _ (by omega) (far_letters B hF hq 32768 (by omega) (by omega)), hF _ (by omega), far_206, tokens_lits B 32779 10 (32768 + 1) (by omega) (fun j h1 h2 => far_letters B hF hq j (by omega) h2)]
    have := letters B hq 10 0 rfl
    rw [Nat.add_zero] at this
    rw [show 32768 + 1 = 32769 by omega, this]
  have hd : fixN (tokens B 32768 32779) = 99 := by rw [ht]; decide +kernel
  have hc : (chain B 8).length = 3287 := block_k hF (by omega) (by omega) 7 (by omega)
  exact fin_of B 8 3287 99 32768 32779 hl rfl rfl hc hd (by omega)
theorem len_d : (wholeF (farL 32769 ++ qL)).length = 424 := len_none _ (far_app 32769 qL) (app_len 32769) (fun k hk => app_at 32769 k hk)
end Go.Proofs.Ytcchekkedgajpaa.DefQ
