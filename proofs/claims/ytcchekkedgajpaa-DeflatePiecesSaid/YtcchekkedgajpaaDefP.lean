/- The chapter's examples of packing. Plain. -/
import Derived.Test.YtcchekkedgajpaaDefO
set_option linter.unusedVariables false
set_option linter.unusedSimpArgs false
namespace Go.Proofs.Ytcchekkedgajpaa.DefP
open BitsM DefM DefN DefO
set_option maxRecDepth 100000 in
theorem whole_0 : wholeF [] = [3, 0] := by decide +kernel
set_option maxRecDepth 100000 in
theorem whole_a : wholeF [97] = [75, 4, 0] := by decide +kernel
set_option maxRecDepth 100000 in
theorem whole_a10 : wholeF (List.replicate 10 97) = [75, 132, 3, 0] := by decide +kernel
/-! all bytes, once -/
def each : List Nat := List.range 256
theorem each_at (k : Nat) (h : k < 256) : each.getD k 0 = k := by
  unfold each
  rw [List.getD_eq_getElem?_getD, List.getElem?_range h]; rfl
theorem each_com (p i m : Nat) (h : p < i) (hi : i < 256) : com each p i m = 0 := by
  cases m with
  | zero => rfl
  | succ m => unfold com; rw [each_at p (by omega), each_at i hi, if_neg (by omega)]
theorem each_mat (i m : Nat) (hi : i < 256) : ∀ (ds : List Nat), (∀ d ∈ ds, 1 ≤ d ∧ d ≤ i) → matL each i m ds (0, 0) = (0, 0) := by
  intro ds
  induction ds with
  | nil => intro _; rfl
  | cons d ds ih =>
    intro h
    have hd := h d (List.mem_cons_self ..)
    show matL each i m ds (upd (0, 0) (com each (i - d) i m) d) = _
    rw [each_com (i - d) i m (by omega) hi]
    show matL each i m ds (0, 0) = _
    exact ih (fun x hx => h x (List.mem_cons_of_mem _ hx))
theorem each_match (i to : Nat) (hi : i < 256) : matchF each i to = (0, 0) := by
  unfold matchF
  rw [mat_list]
  refine each_mat i _ hi _ fun d hd => ?_
  rw [List.mem_range'_1] at hd
  omega
theorem each_toks : ∀ (f i : Nat), i + f = 256 → toks each 256 f i = (List.range' i f).map .lit := by
  intro f
  induction f with
  | zero => intro i _; rfl
  | succ f ih =>
    intro i h
    unfold toks
    rw [if_pos (by omega), each_match i 256 (by omega), if_neg (by decide), ih (i + 1) (by omega), each_at i (by omega), List.range'_succ]
    rfl
set_option maxRecDepth 100000 in
theorem whole_each : (wholeF each).length = 261 ∧ (wholeF each).take 5 = [1, 0, 1, 255, 254] ∧ (wholeF each).drop 5 = each := by
  have e1 : finL each = storedB 1 0 each := by
    have hn : nb each.length = 0 := by decide
    have hl : each.length = 256 := by decide
    unfold finL bitsW
    rw [hn, hl]
    show blkB each 0 256 1 [] = _
    unfold blkB
    have ht : tokens each 0 256 = (List.range' 0 256).map .lit := each_toks 256 0 rfl
    have hp : part each 0 256 = each := by decide +kernel
    rw [ht, hp]
    have h1 : (storedB 1 ([] : List Bool).length each).length = 2088 := by decide +kernel
    have h2 : (fixB 1 ((List.range' 0 256).map .lit)).length = 2170 := by decide +kernel
    rw [h1, h2]
    rfl
  unfold wholeF endL
  rw [e1]
  decide +kernel
end Go.Proofs.Ytcchekkedgajpaa.DefP
