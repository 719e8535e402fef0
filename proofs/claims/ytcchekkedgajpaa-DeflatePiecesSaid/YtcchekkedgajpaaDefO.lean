/- The plain mathematics of packing: what pieces make of a writer; however bytes are written, the same comes out. Nothing of a program is named here. -/
import Derived.Test.YtcchekkedgajpaaDefN
set_option linter.unusedVariables false
set_option linter.unusedSimpArgs false
namespace Go.Proofs.Ytcchekkedgajpaa.DefO
open BitsM DefM DefN
/-! ### only what lies ahead of a block's end counts -/
def Pre (A B : List Nat) (n : Nat) : Prop := ∀ k, k < n → A.getD k 0 = B.getD k 0
theorem com_pre {A B : List Nat} {n : Nat} (h : Pre A B n) : ∀ (m p i : Nat), p + m ≤ n → i + m ≤ n → com A p i m = com B p i m := by
  intro m
  induction m with
  | zero => intro p i _ _; rfl
  | succ m ih =>
    intro p i h1 h2
    unfold com
    rw [h p (by omega), h i (by omega), ih (p + 1) (i + 1) (by omega) (by omega)]
theorem matL_pre {A B : List Nat} {n : Nat} (h : Pre A B n) (i m : Nat) (hi : i + m ≤ n) : ∀ (ds : List Nat) (s : Nat × Nat), matL A i m ds s = matL B i m ds s := by
  intro ds
  induction ds with
  | nil => intro s; rfl
  | cons d ds ih =>
    intro s
    show matL A i m ds (upd s (com A (i - d) i m) d) = matL B i m ds (upd s (com B (i - d) i m) d)
    rw [com_pre h m (i - d) i (by omega) hi, ih]
theorem match_pre {A B : List Nat} {to : Nat} (h : Pre A B to) (i : Nat) (hi : i ≤ to) : matchF A i to = matchF B i to := by
  unfold matchF
  rw [mat_list, mat_list]
  exact matL_pre h i _ (by omega) _ _
theorem toks_pre {A B : List Nat} {to : Nat} (h : Pre A B to) : ∀ (f i : Nat), toks A to f i = toks B to f i := by
  intro f
  induction f with
  | zero => intro i; rfl
  | succ f ih =>
    intro i
    unfold toks
    by_cases hi : i < to
    · rw [if_pos hi, if_pos hi, match_pre h i (by omega), ih, ih, h i hi]
    · rw [if_neg hi, if_neg hi]
theorem tokens_pre {A B : List Nat} {to : Nat} (h : Pre A B to) (i : Nat) : tokens A i to = tokens B i to := toks_pre h _ i
theorem pre_append (B b : List Nat) (n : Nat) (hn : n ≤ B.length) : Pre B (B ++ b) n := by
  intro k hk
  rw [List.getD_eq_getElem?_getD, List.getD_eq_getElem?_getD, List.getElem?_append_left (by omega)]
theorem part_append (B b : List Nat) (S to : Nat) (hn : to ≤ B.length) : part B S to = part (B ++ b) S to := by
  unfold part
  by_cases h : S ≤ B.length
  · rw [List.drop_append_of_le_length h, List.take_append_of_le_length (by rw [List.length_drop]; omega)]
  · rw [show to - S = 0 by omega, List.take_zero, List.take_zero]
theorem blk_append (B b : List Nat) (S to last : Nat) (L : List Bool) (hn : to ≤ B.length) : blkB B S to last L = blkB (B ++ b) S to last L := by
  unfold blkB
  rw [part_append B b S to hn, tokens_pre (pre_append B b to hn) S]
/-! ### whole blocks -/
def chain (A : List Nat) : Nat → List Bool
  | 0 => []
  | k + 1 => blkB A (4096 * k) (4096 * (k + 1)) 0 (chain A k)
theorem chain_append (B b : List Nat) : ∀ k, 4096 * k ≤ B.length → chain B k = chain (B ++ b) k := by
  intro k
  induction k with
  | zero => intro _; rfl
  | succ k ih =>
    intro h
    show blkB B _ _ 0 (chain B k) = blkB (B ++ b) _ _ 0 (chain (B ++ b) k)
    rw [ih (by omega), blk_append B b _ _ _ _ h]
/-- how many blocks are whole, and behind them something is left -/
def nb (n : Nat) : Nat := (n - 1) / 4096
theorem nb_le (n : Nat) : 4096 * nb n ≤ n := by unfold nb; omega
theorem nb_rest (n : Nat) : n - 4096 * nb n ≤ 4096 := by unfold nb; omega
theorem nb_more (n k : Nat) (h : 4096 < n - 4096 * k) : k < nb n := by unfold nb; omega
theorem nb_done (n k : Nat) (hk : 4096 * k ≤ n) (h : ¬ 4096 < n - 4096 * k) (hkn : k ≤ nb n) : k = nb n := by unfold nb at *; omega
theorem nb_mono {n m : Nat} (h : n ≤ m) : nb n ≤ nb m := Nat.div_le_div_right (by omega)
/-- the bits, when some bytes are written -/
def bitsW (B : List Nat) : List Bool := chain B (nb B.length)
def finL (B : List Nat) : List Bool := blkB B (4096 * nb B.length) B.length 1 (bitsW B)
def alig (L : List Bool) : List Bool := L ++ List.replicate (al8 L.length - L.length) false
def endL (B : List Nat) : List Bool := alig (finL B)
/-- the bytes behind T that are whole -/
def outN (L : List Bool) (T : Nat) : List Nat := bytesN (num L / 256 ^ T) (L.length / 8 - T)
def wholeF (B : List Nat) : List Nat := outN (endL B) 0
/-! ### one is ahead of the other -/
def Ahead (L M : List Bool) : Prop := ∃ R, M = L ++ R
theorem Ahead.refl (L : List Bool) : Ahead L L := ⟨[], by simp⟩
theorem Ahead.trans {L M K : List Bool} (h1 : Ahead L M) (h2 : Ahead M K) : Ahead L K := by
  obtain ⟨R, rfl⟩ := h1
  obtain ⟨R2, rfl⟩ := h2
  exact ⟨R ++ R2, by simp⟩
theorem Ahead.len {L M : List Bool} (h : Ahead L M) : L.length ≤ M.length := by obtain ⟨R, rfl⟩ := h; simp
theorem blk_ahead (B : List Nat) (S to last : Nat) (L : List Bool) : Ahead L (blkB B S to last L) := ⟨_, rfl⟩
theorem chain_ahead (A : List Nat) (k j : Nat) : Ahead (chain A k) (chain A (k + j)) := by
  induction j with
  | zero => exact Ahead.refl _
  | succ j ih => exact ih.trans (blk_ahead _ _ _ _ _)
theorem bitsW_ahead (B b : List Nat) : Ahead (bitsW B) (bitsW (B ++ b)) := by
  unfold bitsW
  rw [chain_append B b _ (nb_le _)]
  have h := nb_mono (n := B.length) (m := (B ++ b).length) (by simp)
  obtain ⟨j, hj⟩ := Nat.exists_eq_add_of_le h
  rw [hj]
  exact chain_ahead _ _ _
theorem endL_ahead (B : List Nat) : Ahead (bitsW B) (endL B) := (blk_ahead B _ _ 1 (bitsW B)).trans ⟨_, rfl⟩
theorem num_app (l m : List Bool) : num (l ++ m) = num l + 2 ^ l.length * num m := by
  induction l with
  | nil => simp [num]
  | cons b l ih =>
    show b.toNat + 2 * num (l ++ m) = b.toNat + 2 * num l + 2 ^ (l.length + 1) * num m
    rw [ih, Nat.pow_succ, Nat.mul_add, ← Nat.mul_assoc, Nat.mul_comm 2 (2 ^ l.length)]
    omega
theorem p256 (a : Nat) : 256 ^ a = 2 ^ (8 * a) := by rw [show (256 : Nat) = 2 ^ 8 from rfl, ← Nat.pow_mul]
theorem bytesN_ext (V W c : Nat) (h : ∀ i, i < c → V / 256 ^ i % 256 = W / 256 ^ i % 256) : bytesN V c = bytesN W c := by
  unfold bytesN
  exact List.map_congr_left fun i hi => h i (List.mem_range.1 hi)
theorem byte_ahead {L M : List Bool} (h : Ahead L M) (i : Nat) (hi : 8 * (i + 1) ≤ L.length) : num M / 256 ^ i % 256 = num L / 256 ^ i % 256 := by
  obtain ⟨R, rfl⟩ := h
  rw [num_app, p256]
  obtain ⟨c, hc⟩ := Nat.exists_eq_add_of_le hi
  rw [show L.length = 8 * i + (8 + c) by omega, Nat.pow_add, Nat.mul_assoc, Nat.add_mul_div_left _ _ (Nat.pow_pos (by omega)), Nat.pow_add, show (2 : Nat) ^ 8 = 256 from rfl, Nat.mul_assoc, Nat.add_mul_mod_self_left]
theorem bytesN_split (V a b : Nat) : bytesN V (a + b) = bytesN V a ++ bytesN (V / 256 ^ a) b := by
  unfold bytesN
  rw [List.range_add, List.map_append, List.map_map]
  congr 1
  apply List.map_congr_left
  intro i _
  simp only [Function.comp_apply]
  rw [Nat.div_div_eq_div_mul, ← Nat.pow_add]
/-- what was told, and what comes then, are all of it -/
theorem out_append {L M : List Bool} (h : Ahead L M) : outN L 0 ++ outN M (L.length / 8) = outN M 0 := by
  unfold outN
  have hl := h.len
  rw [Nat.pow_zero, Nat.div_one, Nat.div_one, Nat.sub_zero, Nat.sub_zero]
  have e : M.length / 8 = L.length / 8 + (M.length / 8 - L.length / 8) := by have := Nat.div_le_div_right (c := 8) hl; omega
  conv => rhs; rw [e, bytesN_split]
  congr 1
  refine (bytesN_ext _ _ _ fun i hi => ?_).symm
  exact byte_ahead h i (by omega)
/-! ### never much more than the bytes -/
theorem al8_ge (n : Nat) : n ≤ al8 n ∧ al8 n ≤ n + 7 ∧ al8 n % 8 = 0 := by unfold al8; omega
theorem blk_len (B : List Nat) (S to last : Nat) (L : List Bool) (hto : to ≤ B.length) (hS : S ≤ to) : al8 (blkB B S to last L).length ≤ al8 L.length + 40 + 8 * (to - S) := by
  have h : (blkB B S to last L).length ≤ L.length + (storedB last L.length (part B S to)).length := by
    unfold blkB
    rw [List.length_append]
    split <;> omega
  rw [stored_len, part_len B S to hto] at h
  unfold al8 at *
  omega
theorem chain_len (A : List Nat) : ∀ k, 4096 * k ≤ A.length → al8 (chain A k).length ≤ 40 * k + 8 * (4096 * k) := by
  intro k
  induction k with
  | zero => intro _; show al8 0 ≤ _; decide
  | succ k ih =>
    intro h
    have h1 := ih (by omega)
    have h2 := blk_len A (4096 * k) (4096 * (k + 1)) 0 (chain A k) h (by omega)
    show al8 (blkB A _ _ 0 (chain A k)).length ≤ _
    omega
theorem fin_len (B : List Nat) : al8 (finL B).length ≤ 40 * (nb B.length + 1) + 8 * B.length := by
  have h1 := chain_len B (nb B.length) (nb_le _)
  have h2 := blk_len B (4096 * nb B.length) B.length 1 (bitsW B) (Nat.le_refl _) (nb_le _)
  have h3 := nb_le B.length
  unfold finL
  unfold bitsW at *
  omega
theorem whole_len (B : List Nat) : (wholeF B).length ≤ B.length + 5 * (nb B.length + 1) := by
  have h := fin_len B
  unfold wholeF outN endL alig
  rw [bytesN_length, List.length_append, List.length_replicate]
  have := al8_ge (finL B).length
  omega
end Go.Proofs.Ytcchekkedgajpaa.DefO
