/- What layer 14's add builds, as a plain function of the boxes, and that this is the tree. Plain. -/
import Derived.Test.YtdaokkgenfpmhaaBvhB
set_option linter.unusedVariables false
set_option linter.unusedSimpArgs false
namespace Go.Proofs.Ytdaokkgenfpmhaa.BvhS
open Go Go.RowKit Go.Sort Go.Lib FixM Base Num VecW MeshM Rec MeshA MeshP HitM BvhM BvhA BvhB
/-- the order of shapes along an axis -/
def leN (ax : Nat) (bs : List Bx) (i j : Nat) : Bool := decide (keyB ax (bs.getD i zeroB) < keyB ax (bs.getD j zeroB)) || (decide (keyB ax (bs.getD i zeroB) = keyB ax (bs.getD j zeroB)) && decide (i ≤ j))
/-- a part of the order put in another order -/
def putSeg (l : List Nat) (f : Nat) (s : List Nat) : List Nat := l.take f ++ s ++ l.drop (f + s.length)
theorem putSeg_length (l : List Nat) (f : Nat) (s : List Nat) (h : f + s.length ≤ l.length) : (putSeg l f s).length = l.length := by
  unfold putSeg; simp; omega
theorem putSeg_at (l : List Nat) (f : Nat) (s : List Nat) (h : f + s.length ≤ l.length) (k : Nat) : (putSeg l f s)[k]? = if f ≤ k ∧ k < f + s.length then s[k - f]? else l[k]? := by
  unfold putSeg
  by_cases h1 : k < f
  · rw [if_neg (by omega), List.append_assoc, List.getElem?_append_left (by simp; omega), List.getElem?_take_of_lt h1]
  · by_cases h2 : k < f + s.length
    · rw [if_pos ⟨by omega, h2⟩, List.append_assoc, List.getElem?_append_right (by simp; omega), List.getElem?_append_left (by simp; omega)]
      congr 1; simp; omega
    · rw [if_neg (by omega), List.getElem?_append_right (by simp; omega), List.getElem?_drop]
      congr 1; simp; omega
/-- the box around some of the boxes -/
def boxS (bs : List Bx) : List Nat → Bx
  | [] => zeroB
  | i :: l => l.foldl (fun (b : Bx) (j : Nat) => joinB b (bs.getD j zeroB)) (bs.getD i zeroB)
def boxTo (bs : List Bx) (l : List Nat) (f k : Nat) : Bx := ((l.drop (f + 1)).take k).foldl (fun (b : Bx) (j : Nat) => joinB b (bs.getD j zeroB)) (bs.getD (l.getD f 0) zeroB)
theorem boxTo_zero (bs : List Bx) (l : List Nat) (f : Nat) : boxTo bs l f 0 = bs.getD (l.getD f 0) zeroB := by unfold boxTo; rw [List.take_zero]; rfl
theorem boxTo_next (bs : List Bx) (l : List Nat) (f k : Nat) (h : f + 1 + k < l.length) : boxTo bs l f (k + 1) = joinB (boxTo bs l f k) (bs.getD l[f + 1 + k] zeroB) := by
  unfold boxTo
  have e : (l.drop (f + 1))[k]? = some l[f + 1 + k] := by rw [List.getElem?_drop, List.getElem?_eq_getElem h]
  rw [List.take_add_one, e, List.foldl_append]; rfl
theorem boxTo_all (bs : List Bx) (l : List Nat) (f t : Nat) (hft : f < t) (ht : t ≤ l.length) : boxTo bs l f (t - (f + 1)) = boxS bs ((l.drop f).take (t - f)) := by
  have e : (l.drop f).take (t - f) = l[f] :: (l.drop (f + 1)).take (t - (f + 1)) := by
    rw [List.drop_eq_getElem_cons (show f < l.length by omega), show t - f = (t - (f + 1)) + 1 by omega, List.take_succ_cons]
  rw [e]
  unfold boxTo boxS
  simp [show f < l.length by omega]
/-! a part of a list -/
def segL (l : List Nat) (f t : Nat) : List Nat := (l.drop f).take (t - f)
theorem segL_length (l : List Nat) (f t : Nat) (ht : t ≤ l.length) : (segL l f t).length = t - f := by unfold segL; simp; omega
theorem segL_at (l : List Nat) (f t k : Nat) : (segL l f t)[k]? = if k < t - f then l[f + k]? else none := by
  unfold segL
  split
  · rename_i h; rw [List.getElem?_take_of_lt h, List.getElem?_drop]
  · rename_i h; exact List.getElem?_eq_none (by simp; omega)
theorem seg_put (l : List Nat) (f : Nat) (s : List Nat) (h : f + s.length ≤ l.length) (a b : Nat) (hb : f + b ≤ f + s.length) : segL (putSeg l f s) (f + a) (f + b) = (s.drop a).take (b - a) := by
  apply List.ext_getElem?
  intro k
  rw [segL_at, putSeg_at l f s h]
  by_cases hk : k < f + b - (f + a)
  · rw [if_pos hk, if_pos (by omega), List.getElem?_take_of_lt (by omega), List.getElem?_drop]
    congr 1; omega
  · rw [if_neg hk, List.getElem?_eq_none (by simp; omega)]
theorem seg_other (l : List Nat) (f : Nat) (s : List Nat) (h : f + s.length ≤ l.length) (a b : Nat) (hab : b ≤ f ∨ f + s.length ≤ a) : segL (putSeg l f s) a b = segL l a b := by
  apply List.ext_getElem?
  intro k
  rw [segL_at, segL_at, putSeg_at l f s h]
  by_cases hk : k < b - a
  · rw [if_pos hk, if_pos hk, if_neg (by omega)]
  · rw [if_neg hk, if_neg hk]
theorem put_put (l : List Nat) (f : Nat) (s a b : List Nat) (h : f + s.length ≤ l.length) (hab : a.length + b.length = s.length) : putSeg (putSeg (putSeg l f s) f a) (f + a.length) b = putSeg l f (a ++ b) := by
  have h1 := putSeg_length l f s h
  have h2 := putSeg_length (putSeg l f s) f a (by omega)
  apply List.ext_getElem?
  intro k
  rw [putSeg_at _ _ _ (by omega), putSeg_at _ _ _ (by omega), putSeg_at _ _ _ h, putSeg_at _ _ _ (by rw [List.length_append]; omega), List.length_append]
  by_cases c1 : f ≤ k ∧ k < f + a.length
  · rw [if_neg (by omega), if_pos c1, if_pos (by omega), List.getElem?_append_left (by omega)]
  · rw [if_neg c1]
    by_cases c2 : f + a.length ≤ k ∧ k < f + a.length + b.length
    · rw [if_pos c2, if_pos (by omega), List.getElem?_append_right (by omega)]
      congr 1; omega
    · rw [if_neg c2, if_neg (by omega), if_neg (by omega)]
theorem put_same (l : List Nat) (f t : Nat) (hf : f ≤ t) (ht : t ≤ l.length) : putSeg l f (segL l f t) = l := by
  have hs := segL_length l f t ht
  apply List.ext_getElem?
  intro k
  rw [putSeg_at _ _ _ (by omega), segL_at, hs]
  by_cases c : f ≤ k ∧ k < f + (t - f)
  · rw [if_pos c, if_pos (by omega)]; congr 1; omega
  · rw [if_neg c]
theorem put_perm (l : List Nat) (f t : Nat) (hf : f ≤ t) (ht : t ≤ l.length) (s : List Nat) (hs : s.Perm (segL l f t)) : (putSeg l f s).Perm l := by
  have e := put_same l f t hf ht
  have el := hs.length_eq
  conv => rhs; rw [← e]
  unfold putSeg
  rw [el]
  exact (List.Perm.append_left _ hs).append_right _
/-! the nodes -/
structure Nd where
  b : Bx
  f : Nat
  t : Nat
  x : Int
  y : Int
structure Sta where
  ns : List Nd
  l : List Nat
  dp : Nat
  st : Nat
def addP (bs : List Bx) (mo : Int) : Nat → Nat → Nat → Nat → Sta → Sta
  | 0, _, _, _, s => s
  | n + 1, f, t, d, s =>
    if t - f ≤ 2 ∨ mo < ((s.st + (t - f) : Nat) : Int) then ⟨s.ns ++ [⟨boxS bs (segL s.l f t), f, t, -1, -1⟩], s.l, max s.dp d, s.st + (t - f)⟩ else
    ⟨(addP bs mo n (f + (t - f) / 2) t (d + 1) (addP bs mo n f (f + (t - f) / 2) (d + 1) ⟨s.ns ++ [⟨boxS bs (segL s.l f t), f, t, -1, -1⟩], putSeg s.l f ((segL s.l f t).mergeSort (leN (axisF (boxS bs (segL s.l f t))) bs)), max s.dp d, s.st + (t - f)⟩)).ns.set s.ns.length ⟨boxS bs (segL s.l f t), f, t, ((s.ns.length + 1 : Nat) : Int), (((addP bs mo n f (f + (t - f) / 2) (d + 1) ⟨s.ns ++ [⟨boxS bs (segL s.l f t), f, t, -1, -1⟩], putSeg s.l f ((segL s.l f t).mergeSort (leN (axisF (boxS bs (segL s.l f t))) bs)), max s.dp d, s.st + (t - f)⟩).ns.length : Nat) : Int)⟩,
     (addP bs mo n (f + (t - f) / 2) t (d + 1) (addP bs mo n f (f + (t - f) / 2) (d + 1) ⟨s.ns ++ [⟨boxS bs (segL s.l f t), f, t, -1, -1⟩], putSeg s.l f ((segL s.l f t).mergeSort (leN (axisF (boxS bs (segL s.l f t))) bs)), max s.dp d, s.st + (t - f)⟩)).l,
     (addP bs mo n (f + (t - f) / 2) t (d + 1) (addP bs mo n f (f + (t - f) / 2) (d + 1) ⟨s.ns ++ [⟨boxS bs (segL s.l f t), f, t, -1, -1⟩], putSeg s.l f ((segL s.l f t).mergeSort (leN (axisF (boxS bs (segL s.l f t))) bs)), max s.dp d, s.st + (t - f)⟩)).dp,
     (addP bs mo n (f + (t - f) / 2) t (d + 1) (addP bs mo n f (f + (t - f) / 2) (d + 1) ⟨s.ns ++ [⟨boxS bs (segL s.l f t), f, t, -1, -1⟩], putSeg s.l f ((segL s.l f t).mergeSort (leN (axisF (boxS bs (segL s.l f t))) bs)), max s.dp d, s.st + (t - f)⟩)).st⟩
/-- the state behind the node's own part -/
def s1 (bs : List Bx) (f t d : Nat) (s : Sta) : Sta := ⟨s.ns ++ [⟨boxS bs (segL s.l f t), f, t, -1, -1⟩], s.l, max s.dp d, s.st + (t - f)⟩
def s2 (bs : List Bx) (f t d : Nat) (s : Sta) : Sta := ⟨s.ns ++ [⟨boxS bs (segL s.l f t), f, t, -1, -1⟩], putSeg s.l f ((segL s.l f t).mergeSort (leN (axisF (boxS bs (segL s.l f t))) bs)), max s.dp d, s.st + (t - f)⟩
def s3 (bs : List Bx) (mo : Int) (n f t d : Nat) (s : Sta) : Sta := addP bs mo n f (f + (t - f) / 2) (d + 1) (s2 bs f t d s)
def s4 (bs : List Bx) (mo : Int) (n f t d : Nat) (s : Sta) : Sta := addP bs mo n (f + (t - f) / 2) t (d + 1) (s3 bs mo n f t d s)
theorem addP_stop (bs : List Bx) (mo : Int) (n f t d : Nat) (s : Sta) (h : t - f ≤ 2 ∨ mo < ((s.st + (t - f) : Nat) : Int)) : addP bs mo (n + 1) f t d s = s1 bs f t d s := by
  unfold addP; rw [if_pos h]; rfl
theorem addP_go (bs : List Bx) (mo : Int) (n f t d : Nat) (s : Sta) (h : ¬ (t - f ≤ 2 ∨ mo < ((s.st + (t - f) : Nat) : Int))) : addP bs mo (n + 1) f t d s =
    ⟨(s4 bs mo n f t d s).ns.set s.ns.length ⟨boxS bs (segL s.l f t), f, t, ((s.ns.length + 1 : Nat) : Int), ((s3 bs mo n f t d s).ns.length : Int)⟩, (s4 bs mo n f t d s).l, (s4 bs mo n f t d s).dp, (s4 bs mo n f t d s).st⟩ := by
  conv => lhs; unfold addP
  rw [if_neg h]; rfl
theorem sorted_perm (bs : List Bx) (l : List Nat) (f t : Nat) (hf : f ≤ t) (ht : t ≤ l.length) (ax : Nat) : (putSeg l f ((segL l f t).mergeSort (leN ax bs))).Perm l := put_perm l f t hf ht _ (List.mergeSort_perm _ _)
/-- what adding does in all ways -/
structure Fine (f t d : Nat) (s r : Sta) : Prop where
  l : r.l.Perm s.l
  out : ∀ a b, b ≤ f ∨ t ≤ a → segL r.l a b = segL s.l a b
  ns : ∃ x more, r.ns = s.ns ++ x :: more ∧ x.b = x.b ∧ more.length + 2 ≤ 2 * (t - f)
  st1 : s.st ≤ r.st
  st2 : r.st ≤ s.st + (t - f) * (t - f)
  dp : r.dp ≤ max s.dp (d + (t - f))
theorem add_fine (bs : List Bx) (mo : Int) : ∀ (n f t d : Nat) (s : Sta), t - f ≤ n → f < t → t ≤ s.l.length → Fine f t d s (addP bs mo n f t d s) := by
  intro n
  induction n with
  | zero => intro f t d s h1 h2; omega
  | succ n ih =>
    intro f t d s h1 h2 h3
    by_cases h : t - f ≤ 2 ∨ mo < ((s.st + (t - f) : Nat) : Int)
    · rw [addP_stop _ _ _ _ _ _ _ h]
      refine ⟨.refl _, fun _ _ _ => rfl, ⟨_, [], rfl, rfl, by simp; omega⟩, by show s.st ≤ s.st + (t - f); omega, ?_, by show max s.dp d ≤ _; omega⟩
      show s.st + (t - f) ≤ _
      have : t - f ≤ (t - f) * (t - f) := Nat.le_mul_of_pos_left _ (by omega)
      omega
    · rw [addP_go _ _ _ _ _ _ _ h]
      have hs := segL_length s.l f t h3
      have hms : ((segL s.l f t).mergeSort (leN (axisF (boxS bs (segL s.l f t))) bs)).length = t - f := by rw [List.length_mergeSort, hs]
      have p2 : (s2 bs f t d s).l.Perm s.l := sorted_perm bs s.l f t (by omega) h3 _
      have e2 := p2.length_eq
      have F3 : Fine f (f + (t - f) / 2) (d + 1) (s2 bs f t d s) (s3 bs mo n f t d s) := ih _ _ _ _ (by omega) (by omega) (by omega)
      have e3 := F3.l.length_eq
      have F4 : Fine (f + (t - f) / 2) t (d + 1) (s3 bs mo n f t d s) (s4 bs mo n f t d s) := ih _ _ _ _ (by omega) (by omega) (by omega)
      obtain ⟨x3, m3, n3, -, l3⟩ := F3.ns
      obtain ⟨x4, m4, n4, -, l4⟩ := F4.ns
      have ns2 : (s2 bs f t d s).ns = s.ns ++ [⟨boxS bs (segL s.l f t), f, t, -1, -1⟩] := rfl
      have hn : (s4 bs mo n f t d s).ns = s.ns ++ (⟨boxS bs (segL s.l f t), f, t, -1, -1⟩ :: ((x3 :: m3) ++ (x4 :: m4))) := by rw [n4, n3, ns2]; simp
      refine ⟨(F4.l.trans F3.l).trans p2, ?_, ⟨⟨boxS bs (segL s.l f t), f, t, ((s.ns.length + 1 : Nat) : Int), ((s3 bs mo n f t d s).ns.length : Int)⟩, (x3 :: m3) ++ (x4 :: m4), ?_, rfl, ?_⟩, ?_, ?_, ?_⟩
      · intro a b hab
        show segL (s4 bs mo n f t d s).l a b = _
        rw [F4.out a b (by omega), F3.out a b (by omega)]
        exact seg_other s.l f _ (by omega) a b (by omega)
      · show (s4 bs mo n f t d s).ns.set _ _ = _
        rw [hn, List.set_append_right _ _ (Nat.le_refl _), Nat.sub_self]
        rfl
      · simp only [List.length_append, List.length_cons]; omega
      · show s.st ≤ (s4 bs mo n f t d s).st
        have := F3.st1; have := F4.st1
        have : (s2 bs f t d s).st = s.st + (t - f) := rfl
        omega
      · show (s4 bs mo n f t d s).st ≤ _
        have a1 := F3.st2; have a2 := F4.st2
        have a3 : (s2 bs f t d s).st = s.st + (t - f) := rfl
        have e5 : f + (t - f) / 2 - f = (t - f) / 2 := by omega
        have e6 : t - (f + (t - f) / 2) = (t - f) - (t - f) / 2 := by omega
        rw [e5] at a1; rw [e6] at a2
        have hA : 1 ≤ (t - f) / 2 := by omega
        have hB : 2 ≤ (t - f) - (t - f) / 2 := by omega
        have hAB : t - f = (t - f) / 2 + ((t - f) - (t - f) / 2) := by omega
        generalize (t - f) / 2 = A at *
        generalize t - f - A = B at *
        rw [hAB]
        have : (A + B) * (A + B) = A * A + A * B + (A * B + B * B) := by rw [Nat.add_mul, Nat.mul_add, Nat.mul_add, Nat.mul_comm B A]
        have h5 : A * 2 ≤ A * B := Nat.mul_le_mul_left _ hB
        have h6 : 1 * B ≤ A * B := Nat.mul_le_mul_right _ hA
        omega
      · show (s4 bs mo n f t d s).dp ≤ _
        have a1 := F3.dp; have a2 := F4.dp
        have a3 : (s2 bs f t d s).dp = max s.dp d := rfl
        omega
/-- what adding is asked at -/
def Side (bs : List Bx) (n f t d : Nat) (s : Sta) : Prop := (∀ i ∈ s.l, i < bs.length) ∧ t - f ≤ n ∧ f < t ∧ t ≤ s.l.length ∧ s.l.length ≤ 1048576 ∧ s.ns.length + 2 * (t - f) ≤ 1073741824 ∧ s.st + (t - f) * (t - f) ≤ 1152921504606846976 ∧ d + (t - f) ≤ 1073741824 ∧ s.dp ≤ 1073741824
theorem sq_part {A B : Nat} (hA : 1 ≤ A) (hB : 2 ≤ B) : A + B + A * A ≤ (A + B) * (A + B) ∧ A + B + A * A + B * B ≤ (A + B) * (A + B) := by
  have h1 : (A + B) * (A + B) = A * A + A * B + (A * B + B * B) := by rw [Nat.add_mul, Nat.mul_add, Nat.mul_add, Nat.mul_comm B A]
  have h5 : A * 2 ≤ A * B := Nat.mul_le_mul_left _ hB
  have h6 : 1 * B ≤ A * B := Nat.mul_le_mul_right _ hA
  omega
theorem side_first {bs : List Bx} {n f t d : Nat} {s : Sta} (S : Side bs (n + 1) f t d s) (h : ¬ t - f ≤ 2) : Side bs n f (f + (t - f) / 2) (d + 1) (s2 bs f t d s) := by
  obtain ⟨a1, a2, a3, a4, a5, a6, a7, a8, a9⟩ := S
  have p2 : (s2 bs f t d s).l.Perm s.l := sorted_perm bs s.l f t (by omega) a4 _
  have e2 := p2.length_eq
  have n2 : (s2 bs f t d s).ns.length = s.ns.length + 1 := by show (s.ns ++ [_]).length = _; simp
  have st2 : (s2 bs f t d s).st = s.st + (t - f) := rfl
  have dp2 : (s2 bs f t d s).dp = max s.dp d := rfl
  have hA : 1 ≤ (t - f) / 2 := by omega
  have hB : 2 ≤ (t - f) - (t - f) / 2 := by omega
  have hAB : t - f = (t - f) / 2 + ((t - f) - (t - f) / 2) := by omega
  have hq := (sq_part hA hB).1
  rw [← hAB] at hq
  have e5 : f + (t - f) / 2 - f = (t - f) / 2 := by omega
  refine ⟨fun i hi => a1 i (p2.mem_iff.1 hi), by omega, by omega, by omega, by omega, by omega, ?_, by omega, by omega⟩
  rw [e5, st2]
  generalize (t - f) * (t - f) = X at *
  generalize (t - f) / 2 * ((t - f) / 2) = Y at *
  omega
theorem side_second {bs : List Bx} {mo : Int} {n f t d : Nat} {s : Sta} (S : Side bs (n + 1) f t d s) (h : ¬ t - f ≤ 2) : Side bs n (f + (t - f) / 2) t (d + 1) (s3 bs mo n f t d s) := by
  have S1 := side_first S h
  have F : Fine f (f + (t - f) / 2) (d + 1) (s2 bs f t d s) (s3 bs mo n f t d s) := add_fine bs mo n f (f + (t - f) / 2) (d + 1) (s2 bs f t d s) S1.2.1 S1.2.2.1 S1.2.2.2.1
  obtain ⟨a1, a2, a3, a4, a5, a6, a7, a8, a9⟩ := S
  have n2 : (s2 bs f t d s).ns.length = s.ns.length + 1 := by show (s.ns ++ [_]).length = _; simp
  have st2 : (s2 bs f t d s).st = s.st + (t - f) := rfl
  have dp2 : (s2 bs f t d s).dp = max s.dp d := rfl
  have e2 : (s2 bs f t d s).l.length = s.l.length := (sorted_perm bs s.l f t (by omega) a4 _).length_eq
  have e3 := F.l.length_eq
  obtain ⟨x, mr, e, -, hm⟩ := F.ns
  have n3 : (s3 bs mo n f t d s).ns.length = (s2 bs f t d s).ns.length + 1 + mr.length := by rw [e]; simp; omega
  have hA : 1 ≤ (t - f) / 2 := by omega
  have hB : 2 ≤ (t - f) - (t - f) / 2 := by omega
  have hAB : t - f = (t - f) / 2 + ((t - f) - (t - f) / 2) := by omega
  have hq := (sq_part hA hB).2
  rw [← hAB] at hq
  have e5 : f + (t - f) / 2 - f = (t - f) / 2 := by omega
  have e6 : t - (f + (t - f) / 2) = (t - f) - (t - f) / 2 := by omega
  have f2 := F.st2
  have fd := F.dp
  rw [e5] at f2 hm fd
  refine ⟨fun i hi => S1.1 i (F.l.mem_iff.1 hi), by omega, by omega, by omega, by omega, by omega, ?_, by omega, by omega⟩
  rw [e6]
  generalize (t - f) * (t - f) = X at *
  generalize (t - f) / 2 * ((t - f) / 2) = Y at *
  generalize (t - f - (t - f) / 2) * (t - f - (t - f) / 2) = Z at *
  omega
theorem kids_at {bs : List Bx} {mo : Int} {n f t d : Nat} {s : Sta} (S : Side bs (n + 1) f t d s) (h : ¬ t - f ≤ 2) : ∃ h : s.ns.length < (s4 bs mo n f t d s).ns.length, (s4 bs mo n f t d s).ns[s.ns.length] = ⟨boxS bs (segL s.l f t), f, t, -1, -1⟩ := by
  have S1 := side_first S h
  have S2 := side_second (mo := mo) S h
  have F3 : Fine f (f + (t - f) / 2) (d + 1) (s2 bs f t d s) (s3 bs mo n f t d s) := add_fine bs mo n f (f + (t - f) / 2) (d + 1) (s2 bs f t d s) S1.2.1 S1.2.2.1 S1.2.2.2.1
  have F4 : Fine (f + (t - f) / 2) t (d + 1) (s3 bs mo n f t d s) (s4 bs mo n f t d s) := add_fine bs mo n (f + (t - f) / 2) t (d + 1) (s3 bs mo n f t d s) S2.2.1 S2.2.2.1 S2.2.2.2.1
  obtain ⟨x3, m3, n3, -, l3⟩ := F3.ns
  obtain ⟨x4, m4, n4, -, l4⟩ := F4.ns
  have ns2 : (s2 bs f t d s).ns = s.ns ++ [⟨boxS bs (segL s.l f t), f, t, -1, -1⟩] := rfl
  have hn : (s4 bs mo n f t d s).ns = s.ns ++ (⟨boxS bs (segL s.l f t), f, t, -1, -1⟩ :: ((x3 :: m3) ++ (x4 :: m4))) := by rw [n4, n3, ns2]; simp
  refine ⟨by rw [hn]; simp, ?_⟩
  simp [hn]
/-! the tree's nodes, as they lie in a row -/
def flatN (m : Msh) : Tr → Nat → Nat → List Nd
  | .leaf l, _, f => [⟨boxL m l, f, f + l.length, -1, -1⟩]
  | .node l a b, i, f => ⟨boxL m l, f, f + l.length, ((i + 1 : Nat) : Int), ((i + 1 + nodesT a : Nat) : Int)⟩ :: (flatN m a (i + 1) f ++ flatN m b (i + 1 + nodesT a) (f + a.l.length))
def leavesT : Tr → List Nat
  | .leaf l => l
  | .node _ a b => leavesT a ++ leavesT b
theorem flat_node (m : Msh) (l : List Nat) (a b : Tr) (i f : Nat) : flatN m (.node l a b) i f = ⟨boxL m l, f, f + l.length, ((i + 1 : Nat) : Int), ((i + 1 + nodesT a : Nat) : Int)⟩ :: (flatN m a (i + 1) f ++ flatN m b (i + 1 + nodesT a) (f + a.l.length)) := rfl
theorem leaves_node (l : List Nat) (a b : Tr) : leavesT (.node l a b) = leavesT a ++ leavesT b := rfl
theorem steps_node (l : List Nat) (a b : Tr) : stepsT (.node l a b) = l.length + stepsT a + stepsT b := rfl
theorem deep_node (l : List Nat) (a b : Tr) : deepT (.node l a b) = 1 + max (deepT a) (deepT b) := rfl
theorem flat_length (m : Msh) : ∀ (t : Tr) (i f : Nat), (flatN m t i f).length = nodesT t := by
  intro t
  induction t with
  | leaf l => intro i f; rfl
  | node l a b iha ihb => intro i f; unfold flatN nodesT; rw [List.length_cons, List.length_append, iha, ihb]; omega
theorem leaves_length : ∀ t : Tr, t.good → (leavesT t).length = t.l.length := by
  intro t
  induction t with
  | leaf l => intro h; rfl
  | node l a b iha ihb =>
    intro h
    have := h.2.2.length_eq
    rw [List.length_append] at this
    show (leavesT a ++ leavesT b).length = l.length
    rw [List.length_append, iha h.1, ihb h.2.1]; exact this
theorem leaves_perm : ∀ t : Tr, t.good → (leavesT t).Perm t.l := by
  intro t
  induction t with
  | leaf l => intro h; exact .refl _
  | node l a b iha ihb => intro h; exact ((iha h.1).append (ihb h.2.1)).trans h.2.2
def boxesM (m : Msh) : List Bx := (List.range (m.ts.length + m.bs.length)).map fun (i : Nat) => boxF m (i : Int)
theorem boxes_at (m : Msh) (i : Nat) : (boxesM m).getD i zeroB = boxF m (i : Int) := by
  unfold boxesM
  by_cases h : i < m.ts.length + m.bs.length
  · simp [h]
  · rw [List.getD_eq_getElem?_getD, List.getElem?_eq_none (by simp; omega)]
    unfold boxF
    rw [if_pos (.inr (by omega))]; rfl
theorem leN_boxes (m : Msh) (ax : Nat) : leN ax (boxesM m) = leF m ax := by
  funext i j
  unfold leN leF
  rw [boxes_at, boxes_at]
  have h : ∀ k : Nat, keyB ax (boxF m (k : Int)) = keyF m ax k := by
    intro k; match ax with
    | 0 => rfl
    | 1 => rfl
    | n + 2 => rfl
  rw [h, h]
theorem boxS_boxes (m : Msh) (l : List Nat) : boxS (boxesM m) l = boxL m l := by
  cases l with
  | nil => rfl
  | cons i l =>
    show l.foldl (fun (b : Bx) (j : Nat) => joinB b ((boxesM m).getD j zeroB)) ((boxesM m).getD i zeroB) = l.foldl (fun (b : Bx) (j : Nat) => joinB b (boxF m (j : Int))) (boxF m (i : Int))
    simp only [boxes_at]
theorem deep_pos : ∀ t : Tr, 1 ≤ deepT t := by intro t; cases t <;> (unfold deepT; omega)
/-- what adding leaves, where the steps suffice; where they do not, more were counted than may be -/
theorem add_tree (m : Msh) (mo : Int) : ∀ (n f t d : Nat) (s : Sta), t - f ≤ n → f < t → t ≤ s.l.length →
    (((s.st + stepsT (treeF m n (segL s.l f t)) : Nat) : Int) ≤ mo → addP (boxesM m) mo n f t d s = ⟨s.ns ++ flatN m (treeF m n (segL s.l f t)) s.ns.length f, putSeg s.l f (leavesT (treeF m n (segL s.l f t))), max s.dp (d + deepT (treeF m n (segL s.l f t)) - 1), s.st + stepsT (treeF m n (segL s.l f t))⟩) ∧
    (mo < ((s.st + stepsT (treeF m n (segL s.l f t)) : Nat) : Int) → mo < (((addP (boxesM m) mo n f t d s).st : Nat) : Int)) := by
  intro n
  induction n with
  | zero => intro f t d s h1 h2; omega
  | succ n ih =>
    intro f t d s h1 h2 h3
    have hs := segL_length s.l f t h3
    by_cases hle : t - f ≤ 2
    · have e : treeF m (n + 1) (segL s.l f t) = .leaf (segL s.l f t) := by unfold treeF; rw [if_pos (by omega)]
      rw [e, addP_stop _ _ _ _ _ _ _ (.inl hle)]
      constructor
      · intro _
        unfold s1 flatN leavesT deepT stepsT
        rw [put_same s.l f t (by omega) h3, boxS_boxes, hs, show f + (t - f) = t by omega, show d + 1 - 1 = d by omega]
      · intro h
        show mo < (((s.st + (t - f) : Nat)) : Int)
        unfold stepsT at h; rw [hs] at h; exact h
    · obtain ⟨S, hS⟩ : ∃ S, S = sortF m (axisF (boxL m (segL s.l f t))) (segL s.l f t) := ⟨_, rfl⟩
      have lS : S.length = t - f := by rw [hS, sort_length, hs]
      have e : treeF m (n + 1) (segL s.l f t) = .node (segL s.l f t) (treeF m n (S.take ((t - f) / 2))) (treeF m n (S.drop ((t - f) / 2))) := by
        rw [hS]; conv => lhs; unfold treeF
        rw [if_neg (by omega), hs]
      rw [e]
      by_cases hst : mo < ((s.st + (t - f) : Nat) : Int)
      · rw [addP_stop _ _ _ _ _ _ _ (.inr hst)]
        constructor
        · intro h; exfalso; unfold stepsT at h; rw [hs] at h; omega
        · intro _; exact hst
      · have hgo : ¬ (t - f ≤ 2 ∨ mo < ((s.st + (t - f) : Nat) : Int)) := by omega
        rw [addP_go _ _ _ _ _ _ _ hgo]
        obtain ⟨h2', hh⟩ : ∃ h2', h2' = (t - f) / 2 := ⟨_, rfl⟩
        rw [← hh]
        have l2 : (s2 (boxesM m) f t d s).l = putSeg s.l f S := by
          show putSeg s.l f _ = _
          rw [boxS_boxes, leN_boxes, hS]; rfl
        have len2 : (s2 (boxesM m) f t d s).l.length = s.l.length := by rw [l2]; exact putSeg_length _ _ _ (by omega)
        have st2 : (s2 (boxesM m) f t d s).st = s.st + (t - f) := rfl
        have ns2 : (s2 (boxesM m) f t d s).ns = s.ns ++ [⟨boxL m (segL s.l f t), f, t, -1, -1⟩] := by show s.ns ++ _ = _; rw [boxS_boxes]
        have dp2 : (s2 (boxesM m) f t d s).dp = max s.dp d := rfl
        have seg1 : segL (s2 (boxesM m) f t d s).l f (f + h2') = S.take h2' := by
          rw [l2]
          have := seg_put s.l f S (by omega) 0 h2' (by omega)
          rw [List.drop_zero, Nat.sub_zero] at this
          exact this
        have I3 := ih f (f + h2') (d + 1) (s2 (boxesM m) f t d s) (by omega) (by omega) (by omega)
        have F3 := add_fine (boxesM m) mo n f (f + h2') (d + 1) (s2 (boxesM m) f t d s) (by omega) (by omega) (by omega)
        have E3 : addP (boxesM m) mo n f (f + h2') (d + 1) (s2 (boxesM m) f t d s) = s3 (boxesM m) mo n f t d s := by unfold s3; rw [hh]
        rw [E3] at I3 F3
        rw [seg1] at I3
        have len3 := F3.l.length_eq
        have seg2 : segL (s3 (boxesM m) mo n f t d s).l (f + h2') t = S.drop h2' := by
          rw [F3.out _ _ (.inr (Nat.le_refl _)), l2]
          have := seg_put s.l f S (by omega) h2' (t - f) (by omega)
          rw [show f + (t - f) = t by omega] at this
          rw [this, List.take_of_length_le (by simp; omega)]
        have I4 := ih (f + h2') t (d + 1) (s3 (boxesM m) mo n f t d s) (by omega) (by omega) (by omega)
        have F4 := add_fine (boxesM m) mo n (f + h2') t (d + 1) (s3 (boxesM m) mo n f t d s) (by omega) (by omega) (by omega)
        have E4 : addP (boxesM m) mo n (f + h2') t (d + 1) (s3 (boxesM m) mo n f t d s) = s4 (boxesM m) mo n f t d s := by unfold s4; rw [hh]
        rw [E4] at I4 F4
        rw [seg2] at I4
        have gA := tree_good m n (S.take h2') (by rw [List.length_take]; omega) (by rw [List.length_take]; omega)
        have gB := tree_good m n (S.drop h2') (by rw [List.length_drop]; omega) (by rw [List.length_drop]; omega)
        have lA := leaves_length _ gA
        have lB := leaves_length _ gB
        rw [tree_l] at lA lB
        have tlA : (treeF m n (S.take h2')).l = S.take h2' := tree_l _ _ _
        generalize treeF m n (S.take h2') = A at *
        generalize treeF m n (S.drop h2') = B at *
        constructor
        · intro h
          unfold stepsT at h; rw [hs] at h
          have r3 := I3.1 (by omega)
          have q3 : (s3 (boxesM m) mo n f t d s).st = s.st + (t - f) + stepsT A := by rw [r3, st2]
          have r4 := I4.1 (by omega)
          have n3 : (s3 (boxesM m) mo n f t d s).ns = s.ns ++ (⟨boxL m (segL s.l f t), f, t, -1, -1⟩ :: flatN m A (s.ns.length + 1) f) := by
            rw [r3]; dsimp only; rw [ns2]; simp
          have k3 : (s3 (boxesM m) mo n f t d s).ns.length = s.ns.length + 1 + nodesT A := by rw [n3]; simp [flat_length]; omega
          have n4 : (s4 (boxesM m) mo n f t d s).ns = s.ns ++ (⟨boxL m (segL s.l f t), f, t, -1, -1⟩ :: (flatN m A (s.ns.length + 1) f ++ flatN m B (s.ns.length + 1 + nodesT A) (f + h2'))) := by
            rw [r4]; dsimp only; rw [k3, n3]; simp
          rw [n4, List.set_append_right _ _ (Nat.le_refl _), Nat.sub_self, List.set_cons_zero, k3]
          have L4 : (s4 (boxesM m) mo n f t d s).l = putSeg s.l f (leavesT A ++ leavesT B) := by
            rw [r4]; dsimp only
            have : (s3 (boxesM m) mo n f t d s).l = putSeg (putSeg s.l f S) f (leavesT A) := by rw [r3]; dsimp only; rw [l2]
            rw [this, show f + h2' = f + (leavesT A).length by rw [lA, List.length_take]; omega]
            exact put_put s.l f S _ _ (by omega) (by rw [lA, lB, List.length_take, List.length_drop]; omega)
          have D4 : (s4 (boxesM m) mo n f t d s).dp = max s.dp (d + (1 + max (deepT A) (deepT B)) - 1) := by
            rw [r4]; dsimp only; rw [r3]; dsimp only; rw [dp2]
            have := deep_pos A
            have := deep_pos B
            omega
          have S4 : (s4 (boxesM m) mo n f t d s).st = s.st + ((t - f) + stepsT A + stepsT B) := by rw [r4]; dsimp only; rw [q3]; omega
          rw [L4, D4, S4, boxS_boxes]
          rw [flat_node, leaves_node, steps_node, deep_node]
          rw [hs, tlA, List.length_take, show f + (t - f) = t by omega, show min h2' S.length = h2' by omega]
        · intro h
          unfold stepsT at h; rw [hs] at h
          show mo < (((s4 (boxesM m) mo n f t d s).st : Nat) : Int)
          by_cases c3 : mo < (((s2 (boxesM m) f t d s).st + stepsT A : Nat) : Int)
          · have := I3.2 c3
            have := F4.st1
            omega
          · have r3 := I3.1 (by omega)
            have q3 : (s3 (boxesM m) mo n f t d s).st = s.st + (t - f) + stepsT A := by rw [r3, st2]
            exact I4.2 (by omega)
end Go.Proofs.Ytdaokkgenfpmhaa.BvhS
