/- The plain mathematics of packing: the codes' bits; a block's bits. Nothing of a program is named here. -/
import Derived.Test.YtcchekkedgajpaaDefM
set_option linter.unusedVariables false
set_option linter.unusedSimpArgs false
namespace Go.Proofs.Ytcchekkedgajpaa.DefN
open BitsM DefM
/-! ### codes -/
def symF (s : Nat) : Nat × Nat := if s < 144 then (48 + s, 8) else if s < 256 then (400 + s - 144, 9) else if s < 280 then (s - 256, 7) else (192 + s - 280, 8)
/-- a code's bits, the highest first -/
def rev (n k : Nat) : List Bool := (bitsOf n k).reverse
def symB (s : Nat) : List Bool := rev (symF s).1 (symF s).2
def lenT : List Nat := [3, 4, 5, 6, 7, 8, 9, 10, 11, 13, 15, 17, 19, 23, 27, 31, 35, 43, 51, 59, 67, 83, 99, 115, 131, 163, 195, 227, 258]
def lenX : List Nat := [0, 0, 0, 0, 0, 0, 0, 0, 1, 1, 1, 1, 2, 2, 2, 2, 3, 3, 3, 3, 4, 4, 4, 4, 5, 5, 5, 5, 0]
def dstT : List Nat := [1, 2, 3, 4, 5, 7, 9, 13, 17, 25, 33, 49, 65, 97, 129, 193, 257, 385, 513, 769, 1025, 1537, 2049, 3073, 4097, 6145, 8193, 12289, 16385, 24577]
def dstX : List Nat := [0, 0, 0, 0, 1, 1, 2, 2, 3, 3, 4, 4, 5, 5, 6, 6, 7, 7, 8, 8, 9, 9, 10, 10, 11, 11, 12, 12, 13, 13]
/-- the last one whose least number is not above n, from k on -/
def findG (T : List Nat) (n : Nat) : Nat → Nat → Nat
  | 0, k => k
  | f + 1, k => if k + 1 < T.length ∧ T.getD (k + 1) 0 ≤ n then findG T n f (k + 1) else k
def findF (T : List Nat) (n : Nat) : Nat := findG T n T.length 0
/-- spans: which one n is in, and from where it begins -/
def amongG (wide : Nat → Nat) (n : Nat) : Nat → Nat → Nat → Nat × Nat
  | 0, span, frm => (span, frm)
  | f + 1, span, frm => if 2 ^ wide span ≤ n - frm then amongG wide n f (span + 1) (frm + 2 ^ wide span) else (span, frm)
def wideL (k : Nat) : Nat := k / 4 - 1
def wideD (k : Nat) : Nat := k / 2 - 1
theorem among_find (wide : Nat → Nat) (T : List Nat) (n : Nat) (hT : ∀ k, k + 1 < T.length → T.getD (k + 1) 0 = T.getD k 0 + 2 ^ wide k) (hn : n < T.getD (T.length - 1) 0 + 2 ^ wide (T.length - 1)) :
    ∀ (f g k : Nat), k < T.length → T.length - k ≤ f → T.length - k ≤ g → T.getD k 0 ≤ n → amongG wide n f k (T.getD k 0) = (findG T n g k, T.getD (findG T n g k) 0) := by
  intro f
  induction f with
  | zero => intro g k hk h1; omega
  | succ f ih =>
    intro g k hk h1 h2 hle
    cases g with
    | zero => omega
    | succ g =>
      unfold amongG findG
      by_cases c : k + 1 < T.length
      · have e := hT k c
        by_cases c2 : T.getD (k + 1) 0 ≤ n
        · rw [if_pos (by omega), if_pos ⟨c, c2⟩, ← e]
          exact ih g (k + 1) c (by omega) (by omega) c2
        · rw [if_neg (by omega), if_neg (fun h => c2 h.2)]
      · have e : k = T.length - 1 := by omega
        rw [if_neg (by rw [← e] at hn; omega), if_neg (fun h => c h.1)]
theorem find_lt (T : List Nat) (n : Nat) : ∀ (f k : Nat), k < T.length → findG T n f k < T.length := by
  intro f
  induction f with
  | zero => intro k h; exact h
  | succ f ih =>
    intro k h
    unfold findG
    split
    · rename_i c; exact ih (k + 1) c.1
    · exact h
theorem find_le (T : List Nat) (n : Nat) : ∀ (f k : Nat), T.getD k 0 ≤ n → T.getD (findG T n f k) 0 ≤ n := by
  intro f
  induction f with
  | zero => intro k h; exact h
  | succ f ih =>
    intro k h
    unfold findG
    split
    · rename_i c; exact ih (k + 1) c.2
    · exact h
theorem dst_steps : ∀ k, k + 1 < dstT.length → dstT.getD (k + 1) 0 = dstT.getD k 0 + 2 ^ wideD k := by
  have h : ∀ k, k < 29 → dstT.getD (k + 1) 0 = dstT.getD k 0 + 2 ^ wideD k := by decide
  intro k hk
  have e : dstT.length = 30 := by decide
  exact h k (by omega)
theorem dst_top : dstT.getD (dstT.length - 1) 0 + 2 ^ wideD (dstT.length - 1) = 32769 := by decide
theorem among_dst (n : Nat) (h1 : 1 ≤ n) (h2 : n ≤ 32768) : amongG wideD n 30 0 1 = (findF dstT n, dstT.getD (findF dstT n) 0) :=
  among_find wideD dstT n dst_steps (by rw [dst_top]; omega) 30 30 0 (by decide) (by decide) (by decide) h1
theorem among_len (n : Nat) (h1 : 3 ≤ n) (h2 : n ≤ 257) : amongG wideL n 30 0 3 = (findF lenT n, lenT.getD (findF lenT n) 0) := by
  have h : ∀ n, n < 258 → 3 ≤ n → amongG wideL n 30 0 3 = (findF lenT n, lenT.getD (findF lenT n) 0) := by decide +kernel
  exact h n (by omega) h1
theorem dst_facts (n : Nat) (h1 : 1 ≤ n) (h2 : n ≤ 32768) : findF dstT n < 30 ∧ dstT.getD (findF dstT n) 0 ≤ n ∧ n - dstT.getD (findF dstT n) 0 < 2 ^ wideD (findF dstT n) ∧ dstX.getD (findF dstT n) 0 = wideD (findF dstT n) := by
  have a := find_lt dstT n dstT.length 0 (by decide)
  have b := find_le dstT n dstT.length 0 h1
  have c : ∀ k, k < 30 → dstX.getD k 0 = wideD k := by decide
  refine ⟨a, b, ?_, c _ a⟩
  have d : ∀ (f k : Nat), k < dstT.length → dstT.length - k ≤ f → dstT.getD k 0 ≤ n → n < dstT.getD (findG dstT n f k) 0 + 2 ^ wideD (findG dstT n f k) := by
    intro f
    induction f with
    | zero => intro k hk h; omega
    | succ f ih =>
      intro k hk h hle
      unfold findG
      by_cases c1 : k + 1 < dstT.length
      · have e := dst_steps
        by_cases c2 : dstT.getD (k + 1) 0 ≤ n
        · rw [if_pos ⟨c1, c2⟩]; exact ih (k + 1) c1 (by omega) c2
        · rw [if_neg (fun h => c2 h.2)]; have := e k c1; omega
      · rw [if_neg (fun h => c1 h.1)]
        have e : k = dstT.length - 1 := by omega
        have e2 : dstT.getD (dstT.length - 1) 0 + 2 ^ wideD (dstT.length - 1) = 32769 := by decide
        rw [e]; omega
  have := d dstT.length 0 (by decide) (by decide) h1
  unfold findF
  omega
theorem len_facts (n : Nat) (h1 : 3 ≤ n) (h2 : n ≤ 257) : findF lenT n < 28 ∧ lenT.getD (findF lenT n) 0 ≤ n ∧ n - lenT.getD (findF lenT n) 0 < 2 ^ wideL (findF lenT n) ∧ lenX.getD (findF lenT n) 0 = wideL (findF lenT n) := by
  have h : ∀ n, n < 258 → 3 ≤ n → (findF lenT n < 28 ∧ lenT.getD (findF lenT n) 0 ≤ n ∧ n - lenT.getD (findF lenT n) 0 < 2 ^ wideL (findF lenT n) ∧ lenX.getD (findF lenT n) 0 = wideL (findF lenT n)) := by decide +kernel
  exact h n (by omega) h1
theorem len_258 : findF lenT 258 = 28 := by decide
/-! ### a block's bits -/
def tokB : Tok → List Bool
  | .lit b => symB b
  | .mat n d => symB (257 + findF lenT n) ++ bitsOf (n - lenT.getD (findF lenT n) 0) (lenX.getD (findF lenT n) 0) ++ rev (findF dstT d) 5 ++ bitsOf (d - dstT.getD (findF dstT d) 0) (dstX.getD (findF dstT d) 0)
def fixB (last : Nat) (l : List Tok) : List Bool := bitsOf last 1 ++ bitsOf 1 2 ++ l.flatMap tokB ++ symB 256
def al8 (n : Nat) : Nat := (n + 7) / 8 * 8
def storedB (last P : Nat) (bs : List Nat) : List Bool := bitsOf last 1 ++ bitsOf 0 2 ++ List.replicate (al8 (P + 3) - (P + 3)) false ++ bitsOf bs.length 16 ++ bitsOf (65535 - bs.length) 16 ++ bs.flatMap (fun b => bitsOf b 8)
/-- the bytes of a block -/
def part (B : List Nat) (S to : Nat) : List Nat := (B.drop S).take (to - S)
def blkB (B : List Nat) (S to last : Nat) (L : List Bool) : List Bool :=
  L ++ (if (storedB last L.length (part B S to)).length < (fixB last (tokens B S to)).length then storedB last L.length (part B S to) else fixB last (tokens B S to))
/-! ### fields: numbers of some bits -/
def fldB (f : Nat × Nat) : List Bool := bitsOf f.1 f.2
def symT (s : Nat) : Nat × Nat := (num (symB s), (symF s).2)
def revT (n k : Nat) : Nat × Nat := (num (rev n k), k)
theorem rev_len (n k : Nat) : (rev n k).length = k := by unfold rev; rw [List.length_reverse, bitsOf_length]
theorem symB_len (s : Nat) : (symB s).length = (symF s).2 := rev_len _ _
theorem fld_sym (s : Nat) : fldB (symT s) = symB s := by
  unfold fldB symT
  have h := bitsOf_num (symB s)
  rw [symB_len] at h
  exact h
theorem fld_rev (n k : Nat) : fldB (revT n k) = rev n k := by
  unfold fldB revT
  have h := bitsOf_num (rev n k)
  rw [rev_len] at h
  exact h
/-- a token's fields, as the program lays them -/
def tokT : Tok → List (Nat × Nat)
  | .lit b => [symT b]
  | .mat n d => (if n = 258 then [symT 285] else [symT (257 + findF lenT n), (n - lenT.getD (findF lenT n) 0, wideL (findF lenT n))]) ++ [revT (findF dstT d) 5, (d - dstT.getD (findF dstT d) 0, wideD (findF dstT d))]
def okT : Tok → Prop
  | .lit b => b < 256
  | .mat n d => 3 ≤ n ∧ n ≤ 258 ∧ 1 ≤ d ∧ d ≤ 32768
theorem tok_fields (t : Tok) (h : okT t) : (tokT t).flatMap fldB = tokB t := by
  cases t with
  | lit b => show fldB (symT b) ++ [] = symB b; rw [fld_sym, List.append_nil]
  | mat n d =>
    obtain ⟨h1, h2, h3, h4⟩ := h
    have hd := dst_facts d h3 h4
    show ((if n = 258 then [symT 285] else [symT (257 + findF lenT n), (n - lenT.getD (findF lenT n) 0, wideL (findF lenT n))]) ++ [revT (findF dstT d) 5, (d - dstT.getD (findF dstT d) 0, wideD (findF dstT d))]).flatMap fldB = symB (257 + findF lenT n) ++ bitsOf (n - lenT.getD (findF lenT n) 0) (lenX.getD (findF lenT n) 0) ++ rev (findF dstT d) 5 ++ bitsOf (d - dstT.getD (findF dstT d) 0) (dstX.getD (findF dstT d) 0)
    rw [List.flatMap_append]
    have e2 : ([revT (findF dstT d) 5, (d - dstT.getD (findF dstT d) 0, wideD (findF dstT d))] : List (Nat × Nat)).flatMap fldB = rev (findF dstT d) 5 ++ bitsOf (d - dstT.getD (findF dstT d) 0) (dstX.getD (findF dstT d) 0) := by
      rw [hd.2.2.2]
      show fldB (revT _ 5) ++ (fldB _ ++ []) = _
      rw [fld_rev, List.append_nil]; rfl
    rw [e2]
    by_cases c : n = 258
    · subst c
      rw [if_pos rfl, len_258]
      show (fldB (symT 285) ++ []) ++ _ = _
      rw [fld_sym, List.append_nil]
      show _ = symB (257 + 28) ++ bitsOf (258 - 258) 0 ++ _ ++ _
      simp [bitsOf]
    · rw [if_neg c]
      have hl := len_facts n h1 (by omega)
      have e1 : ([symT (257 + findF lenT n), (n - lenT.getD (findF lenT n) 0, wideL (findF lenT n))] : List (Nat × Nat)).flatMap fldB = symB (257 + findF lenT n) ++ bitsOf (n - lenT.getD (findF lenT n) 0) (lenX.getD (findF lenT n) 0) := by
        rw [hl.2.2.2]
        show fldB (symT _) ++ (fldB _ ++ []) = _
        rw [fld_sym, List.append_nil]; rfl
      rw [e1]
      simp [List.append_assoc]
theorem toks_ok (B : List Nat) (hB : ∀ x ∈ B, x < 256) (to : Nat) (hto : to ≤ B.length) : ∀ (f i : Nat), ∀ t ∈ toks B to f i, okT t := by
  intro f
  induction f with
  | zero => intro i t h; simp [toks] at h
  | succ f ih =>
    intro i t h
    unfold toks at h
    split at h
    · rename_i hi
      split at h
      · rename_i h3
        rcases List.mem_cons.1 h with rfl | h
        · have h1 := match_le B i to
          have h2 := match_far B i to h3
          exact ⟨h3, by omega, h2.1, h2.2.2⟩
        · exact ih _ t h
      · rcases List.mem_cons.1 h with rfl | h
        · show B.getD i 0 < 256
          rw [List.getD_eq_getElem?_getD, List.getElem?_eq_getElem (by omega)]
          exact hB _ (List.getElem_mem _)
        · exact ih _ t h
    · simp at h
theorem tokens_ok (B : List Nat) (hB : ∀ x ∈ B, x < 256) (i to : Nat) (hto : to ≤ B.length) : ∀ t ∈ tokens B i to, okT t := toks_ok B hB to hto _ i
/-- a block's fields -/
def blkT (last : Nat) (l : List Tok) : List (Nat × Nat) := (last, 1) :: (1, 2) :: (l.flatMap tokT ++ [symT 256])
theorem blk_fields (last : Nat) (l : List Tok) (h : ∀ t ∈ l, okT t) : (blkT last l).flatMap fldB = fixB last l := by
  have e : (l.flatMap tokT).flatMap fldB = l.flatMap tokB := by
    induction l with
    | nil => rfl
    | cons t l ih =>
      rw [List.flatMap_cons, List.flatMap_append, ih (fun x hx => h x (List.mem_cons_of_mem _ hx)), tok_fields t (h t (List.mem_cons_self ..)), List.flatMap_cons]
  unfold blkT fixB
  rw [List.flatMap_cons, List.flatMap_cons, List.flatMap_append, e]
  show bitsOf last 1 ++ (bitsOf 1 2 ++ (_ ++ (fldB (symT 256) ++ []))) = _
  rw [fld_sym, List.append_nil]
  simp [List.append_assoc]
theorem fields_len (l : List (Nat × Nat)) : (l.flatMap fldB).length = (l.map Prod.snd).sum := by
  induction l with
  | nil => rfl
  | cons f l ih => rw [List.flatMap_cons, List.length_append, ih, List.map_cons, List.sum_cons]; unfold fldB; rw [bitsOf_length]
theorem stored_len (last P : Nat) (bs : List Nat) : (storedB last P bs).length = 3 + (al8 (P + 3) - (P + 3)) + 32 + 8 * bs.length := by
  unfold storedB
  have e : (bs.flatMap (fun b => bitsOf b 8)).length = 8 * bs.length := by
    induction bs with
    | nil => rfl
    | cons b bs ih => rw [List.flatMap_cons, List.length_append, ih, bitsOf_length, List.length_cons]; omega
  simp only [List.length_append, bitsOf_length, List.length_replicate, e]
  try omega
theorem part_len (B : List Nat) (S to : Nat) (h : to ≤ B.length) : (part B S to).length = to - S := by
  unfold part; rw [List.length_take, List.length_drop]; omega
end Go.Proofs.Ytcchekkedgajpaa.DefN
