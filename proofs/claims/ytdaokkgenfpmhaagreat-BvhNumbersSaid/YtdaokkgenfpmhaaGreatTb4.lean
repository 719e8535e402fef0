/- Joined texts of this claim, part 4: contracts and plain laws that its proof stands on. -/
import Derived.Test.YtdaokkgenfpmhaaGreatTb3
/- What layer 14's add builds, as a plain function of the boxes, and that this is the tree. Plain. -/
set_option linter.unusedVariables false
set_option linter.unusedSimpArgs false
namespace Go.Proofs.YtdaokkgenfpmhaaGreat.BvhS
open Go Go.RowKit Go.Sort Go.Lib FixM Base Num VecW MeshM Rec MeshA MeshP HitM BvhM BvhA BvhB
/-- the order of shapes along an axis -/
def leN (ax : Nat) (bs : List Bx) (i j : Nat) : Bool := decide (keyB ax (bs.getD i zeroB) < keyB ax (bs.getD j zeroB)) || (decide (keyB ax (bs.getD i zeroB) = keyB ax (bs.getD j zeroB)) && decide (i ≤ j))
/-- a part of the order put in another order -/
def putSeg (l : List Nat) (f : Nat) (s : List Nat) : List Nat := l.take f ++ s ++ l.drop (f + s.length)
theorem putSeg_length (l : List Nat) (f : Nat) (s : List Nat) (h : f + s.length ≤ l.length) : (putSeg l f s).length = l.length := by
 unfold putSeg; simp; omega
theorem putSeg_at (l : List Nat) (f : Nat) (s : List Nat) (h : f + s.length ≤ l.length) (k : Nat) : (putSeg l f s)[k]? = if f ≤ k ∧ k < f + s.length then s[k - f]? else l[k]? := by
 unfold putSeg
 by_cases h1 : k < f
 ·
  rw [if_neg (by omega), List.append_assoc, List.getElem?_append_left (by simp; omega), List.getElem?_take_of_lt h1]
 ·
  by_cases h2 : k < f + s.length
  ·
   rw [if_pos ⟨by omega, h2⟩, List.append_assoc, List.getElem?_append_right (by simp; omega), List.getElem?_append_left (by simp; omega)]
   congr 1; simp; omega
  ·
   rw [if_neg (by omega), List.getElem?_append_right (by simp; omega), List.getElem?_drop]
   congr 1; simp; omega
/-- the box around some of the boxes -/
def boxS (bs : List Bx) : List Nat → Bx
 | [] => zeroB
 | i :: l => l.foldl (fun (b : Bx) (j : Nat) => joinB b (bs.getD j zeroB)) (bs.getD i zeroB)
def boxTo (bs : List Bx) (l : List Nat) (f k : Nat) : Bx := ((l.drop (f + 1)).take k).foldl (fun (b : Bx) (j : Nat) => joinB b (bs.getD j zeroB)) (bs.getD (l.getD f 0) zeroB)
theorem boxTo_zero (bs : List Bx) (l : List Nat) (f : Nat) : boxTo bs l f 0 = bs.getD (l.getD f 0) zeroB := by unfold boxTo; rw [List.take_zero]; rfl
theorem boxTo_next (bs : List Bx) (l : List Nat) (f k : Nat) (h : f + 1 + k < l.length) : boxTo bs l f (k + 1) = joinB (boxTo bs l f k) (bs.getD l[f + 1 + k] zeroB) := by
 unfold boxTo
 have e : (l.drop (f + 1))[k]? = some l[f + 1 + k] := by rw [List.getElem?_drop, List.getElem?_eq_getElem h]
 rw [List.take_add_one, e, List.foldl_append]; rfl
theorem boxTo_all (bs : List Bx) (l : List Nat) (f t : Nat) (hft : f < t) (ht : t ≤ l.length) : boxTo bs l f (t - (f + 1)) = boxS bs ((l.drop f).take (t - f)) := by
 have e : (l.drop f).take (t - f) = l[f] :: (l.drop (f + 1)).take (t - (f + 1)) := by
  rw [List.drop_eq_getElem_cons (show f < l.length by omega), show t - f = (t - (f + 1)) + 1 by omega, List.take_succ_cons]
 rw [e]
 unfold boxTo boxS
 simp [show f < l.length by omega]
/-! a part of a list -/
def segL (l : List Nat) (f t : Nat) : List Nat := (l.drop f).take (t - f)
theorem segL_length (l : List Nat) (f t : Nat) (ht : t ≤ l.length) : (segL l f t).length = t - f := by unfold segL; simp; omega
theorem segL_at (l : List Nat) (f t k : Nat) : (segL l f t)[k]? = if k < t - f then l[f + k]? else none := by
 unfold segL
 split
 ·
  rename_i h; rw [List.getElem?_take_of_lt h, List.getElem?_drop]
 ·
  rename_i h; exact List.getElem?_eq_none (by simp; omega)
theorem seg_put (l : List Nat) (f : Nat) (s : List Nat) (h : f + s.length ≤ l.length) (a b : Nat) (hb : f + b ≤ f + s.length) : segL (putSeg l f s) (f + a) (f + b) = (s.drop a).take (b - a) := by
 apply List.ext_getElem?
 intro k
 rw [segL_at, putSeg_at l f s h]
 by_cases hk : k < f + b - (f + a)
 ·
  rw [if_pos hk, if_pos (by omega), List.getElem?_take_of_lt (by omega), List.getElem?_drop]
  congr 1; omega
 ·
  rw [if_neg hk, List.getElem?_eq_none (by simp; omega)]
theorem seg_other (l : List Nat) (f : Nat) (s : List Nat) (h : f + s.length ≤ l.length) (a b : Nat) (hab : b ≤ f ∨ f + s.length ≤ a) : segL (putSeg l f s) a b = segL l a b := by
 apply List.ext_getElem?
 intro k
 rw [segL_at, segL_at, putSeg_at l f s h]
 by_cases hk : k < b - a
 ·
  rw [if_pos hk, if_pos hk, if_neg (by omega)]
 ·
  rw [if_neg hk, if_neg hk]
theorem put_put (l : List Nat) (f : Nat) (s a b : List Nat) (h : f + s.length ≤ l.length) (hab : a.length + b.length = s.length) : putSeg (putSeg (putSeg l f s) f a) (f + a.length) b = putSeg l f (a ++ b) := by
 have h1 := putSeg_length l f s h
 have h2 := putSeg_length (putSeg l f s) f a (by omega)
 apply List.ext_getElem?
 intro k
 rw [putSeg_at _ _ _ (by omega), putSeg_at _ _ _ (by omega), putSeg_at _ _ _ h, putSeg_at _ _ _ (by rw [List.length_append]; omega), List.length_append]
 by_cases c1 : f ≤ k ∧ k < f + a.length
 ·
  rw [if_neg (by omega), if_pos c1, if_pos (by omega), List.getElem?_append_left (by omega)]
 ·
  rw [if_neg c1]
  by_cases c2 : f + a.length ≤ k ∧ k < f + a.length + b.length
  ·
   rw [if_pos c2, if_pos (by omega), List.getElem?_append_right (by omega)]
   congr 1; omega
  ·
   rw [if_neg c2, if_neg (by omega), if_neg (by omega)]
theorem put_same (l : List Nat) (f t : Nat) (hf : f ≤ t) (ht : t ≤ l.length) : putSeg l f (segL l f t) = l := by
 have hs := segL_length l f t ht
 apply List.ext_getElem?
 intro k
 rw [putSeg_at _ _ _ (by omega), segL_at, hs]
 by_cases c : f ≤ k ∧ k < f + (t - f)
 ·
  rw [if_pos c, if_pos (by omega)]; congr 1; omega
 ·
  rw [if_neg c]
theorem put_perm (l : List Nat) (f t : Nat) (hf : f ≤ t) (ht : t ≤ l.length) (s : List Nat) (hs : s.Perm (segL l f t)) : (putSeg l f s).Perm l := by
 have e := put_same l f t hf ht
 have el := hs.length_eq
 conv => rhs; rw [← e]
 unfold putSeg
 rw [el]
 exact (List.Perm.append_left _ hs).append_right _
/-! the nodes -/
structure Nd where
 b : Bx
 f : Nat
 t : Nat
 x : Int
 y : Int
structure Sta where
 ns : List Nd
 l : List Nat
 dp : Nat
 st : Nat
def addP (bs : List Bx) (mo : Int) : Nat → Nat → Nat → Nat → Sta → Sta
 | 0, _, _, _, s => s
 | n + 1, f, t, d, s =>
  if t - f ≤ 2 ∨ mo < ((s.st + (t - f) : Nat) : Int) then ⟨s.ns ++ [⟨boxS bs (segL s.l f t), f, t, -1, -1⟩], s.l, max s.dp d, s.st + (t - f)⟩ else
  ⟨(addP bs mo n (f + (t - f) / 2) t (d + 1) (addP bs mo n f (f + (t - f) / 2) (d + 1) ⟨s.ns ++ [⟨boxS bs (segL s.l f t), f, t, -1, -1⟩], putSeg s.l f ((segL s.l f t).mergeSort (leN (axisF (boxS bs (segL s.l f t))) bs)), max s.dp d, s.st + (t - f)⟩)).ns.set s.ns.length ⟨boxS bs (segL s.l f t), f, t, ((s.ns.length + 1 : Nat) : Int), (((addP bs mo n f (f + (t - f) / 2) (d + 1) ⟨s.ns ++ [⟨boxS bs (segL s.l f t), f, t, -1, -1⟩], putSeg s.l f ((segL s.l f t).mergeSort (leN (axisF (boxS bs (segL s.l f t))) bs)), max s.dp d, s.st + (t - f)⟩).ns.length : Nat) : Int)⟩,
   (addP bs mo n (f + (t - f) / 2) t (d + 1) (addP bs mo n f (f + (t - f) / 2) (d + 1) ⟨s.ns ++ [⟨boxS bs (segL s.l f t), f, t, -1, -1⟩], putSeg s.l f ((segL s.l f t).mergeSort (leN (axisF (boxS bs (segL s.l f t))) bs)), max s.dp d, s.st + (t - f)⟩)).l,
   (addP bs mo n (f + (t - f) / 2) t (d + 1) (addP bs mo n f (f + (t - f) / 2) (d + 1) ⟨s.ns ++ [⟨boxS bs (segL s.l f t), f, t, -1, -1⟩], putSeg s.l f ((segL s.l f t).mergeSort (leN (axisF (boxS bs (segL s.l f t))) bs)), max s.dp d, s.st + (t - f)⟩)).dp,
   (addP bs mo n (f + (t - f) / 2) t (d + 1) (addP bs mo n f (f + (t - f) / 2) (d + 1) ⟨s.ns ++ [⟨boxS bs (segL s.l f t), f, t, -1, -1⟩], putSeg s.l f ((segL s.l f t).mergeSort (leN (axisF (boxS bs (segL s.l f t))) bs)), max s.dp d, s.st + (t - f)⟩)).st⟩
/-- the state behind the node's own part -/
def s1 (bs : List Bx) (f t d : Nat) (s : Sta) : Sta := ⟨s.ns ++ [⟨boxS bs (segL s.l f t), f, t, -1, -1⟩], s.l, max s.dp d, s.st + (t - f)⟩
def s2 (bs : List Bx) (f t d : Nat) (s : Sta) : Sta := ⟨s.ns ++ [⟨boxS bs (segL s.l f t), f, t, -1, -1⟩], putSeg s.l f ((segL s.l f t).mergeSort (leN (axisF (boxS bs (segL s.l f t))) bs)), max s.dp d, s.st + (t - f)⟩
def s3 (bs : List Bx) (mo : Int) (n f t d : Nat) (s : Sta) : Sta := addP bs mo n f (f + (t - f) / 2) (d + 1) (s2 bs f t d s)
def s4 (bs : List Bx) (mo : Int) (n f t d : Nat) (s : Sta) : Sta := addP bs mo n (f + (t - f) / 2) t (d + 1) (s3 bs mo n f t d s)
theorem addP_stop (bs : List Bx) (mo : Int) (n f t d : Nat) (s : Sta) (h : t - f ≤ 2 ∨ mo < ((s.st + (t - f) : Nat) : Int)) : addP bs mo (n + 1) f t d s = s1 bs f t d s := by
 unfold addP; rw [if_pos h]; rfl
theorem addP_go (bs : List Bx) (mo : Int) (n f t d : Nat) (s : Sta) (h : ¬ (t - f ≤ 2 ∨ mo < ((s.st + (t - f) : Nat) : Int))) : addP bs mo (n + 1) f t d s =
  ⟨(s4 bs mo n f t d s).ns.set s.ns.length ⟨boxS bs (segL s.l f t), f, t, ((s.ns.length + 1 : Nat) : Int), ((s3 bs mo n f t d s).ns.length : Int)⟩, (s4 bs mo n f t d s).l, (s4 bs mo n f t d s).dp, (s4 bs mo n f t d s).st⟩ := by
 conv => lhs; unfold addP
 rw [if_neg h]; rfl
theorem sorted_perm (bs : List Bx) (l : List Nat) (f t : Nat) (hf : f ≤ t) (ht : t ≤ l.length) (ax : Nat) : (putSeg l f ((segL l f t).mergeSort (leN ax bs))).Perm l := put_perm l f t hf ht _ (List.mergeSort_perm _ _)
/-- what adding does in all ways -/
structure Fine (f t d : Nat) (s r : Sta) : Prop where
 l : r.l.Perm s.l
 out : ∀ a b, b ≤ f ∨ t ≤ a → segL r.l a b = segL s.l a b
 ns : ∃ x more, r.ns = s.ns ++ x :: more ∧ x.b = x.b ∧ more.length + 2 ≤ 2 * (t - f)
 st1 : s.st ≤ r.st
 st2 : r.st ≤ s.st + (t - f) * (t - f)
 dp : r.dp ≤ max s.dp (d + (t - f))
theorem add_fine (bs : List Bx) (mo : Int) : ∀ (n f t d : Nat) (s : Sta), t - f ≤ n → f < t → t ≤ s.l.length → Fine f t d s (addP bs mo n f t d s) := by
 intro n
 induction n with
 | zero => intro f t d s h1 h2; omega
 | succ n ih =>
  intro f t d s h1 h2 h3
  by_cases h : t - f ≤ 2 ∨ mo < ((s.st + (t - f) : Nat) : Int)
  ·
   rw [addP_stop _ _ _ _ _ _ _ h]
   refine ⟨.refl _, fun _ _ _ => rfl, ⟨_, [], rfl, rfl, by simp; omega⟩, by show s.st ≤ s.st + (t - f); omega, ?_, by show max s.dp d ≤ _; omega⟩
   show s.st + (t - f) ≤ _
   have : t - f ≤ (t - f) * (t - f) := Nat.le_mul_of_pos_left _ (by omega)
   omega
  ·
   rw [addP_go _ _ _ _ _ _ _ h]
   have hs := segL_length s.l f t h3
   have hms : ((segL s.l f t).mergeSort (leN (axisF (boxS bs (segL s.l f t))) bs)).length = t - f := by rw [List.length_mergeSort, hs]
   have p2 : (s2 bs f t d s).l.Perm s.l := sorted_perm bs s.l f t (by omega) h3 _
   have e2 := p2.length_eq
   have F3 : Fine f (f + (t - f) / 2) (d + 1) (s2 bs f t d s) (s3 bs mo n f t d s) := ih _ _ _ _ (by omega) (by omega) (by omega)
   have e3 := F3.l.length_eq
   have F4 : Fine (f + (t - f) / 2) t (d + 1) (s3 bs mo n f t d s) (s4 bs mo n f t d s) := ih _ _ _ _ (by omega) (by omega) (by omega)
   obtain ⟨x3, m3, n3, -, l3⟩ := F3.ns
   obtain ⟨x4, m4, n4, -, l4⟩ := F4.ns
   have ns2 : (s2 bs f t d s).ns = s.ns ++ [⟨boxS bs (segL s.l f t), f, t, -1, -1⟩] := rfl
   have hn : (s4 bs mo n f t d s).ns = s.ns ++ (⟨boxS bs (segL s.l f t), f, t, -1, -1⟩ :: ((x3 :: m3) ++ (x4 :: m4))) := by rw [n4, n3, ns2]; simp
   refine ⟨(F4.l.trans F3.l).trans p2, ?_, ⟨⟨boxS bs (segL s.l f t), f, t, ((s.ns.length + 1 : Nat) : Int), ((s3 bs mo n f t d s).ns.length : Int)⟩, (x3 :: m3) ++ (x4 :: m4), ?_, rfl, ?_⟩, ?_, ?_, ?_⟩
   ·
    intro a b hab
    show segL (s4 bs mo n f t d s).l a b = _
    rw [F4.out a b (by omega), F3.out a b (by omega)]
    exact seg_other s.l f _ (by omega) a b (by omega)
   ·
    show (s4 bs mo n f t d s).ns.set _ _ = _
    rw [hn, List.set_append_right _ _ (Nat.le_refl _), Nat.sub_self]
    rfl
   ·
    simp only [List.length_append, List.length_cons]; omega
   ·
    show s.st ≤ (s4 bs mo n f t d s).st
    have := F3.st1; have := F4.st1
    have : (s2 bs f t d s).st = s.st + (t - f) := rfl
    omega
   ·
    show (s4 bs mo n f t d s).st ≤ _
    have a1 := F3.st2; have a2 := F4.st2
    have a3 : (s2 bs f t d s).st = s.st + (t - f) := rfl
    have e5 : f + (t - f) / 2 - f = (t - f) / 2 := by omega
    have e6 : t - (f + (t - f) / 2) = (t - f) - (t - f) / 2 := by omega
    rw [e5] at a1; rw [e6] at a2
    have hA : 1 ≤ (t - f) / 2 := by omega
    have hB : 2 ≤ (t - f) - (t - f) / 2 := by omega
    have hAB : t - f = (t - f) / 2 + ((t - f) - (t - f) / 2) := by omega
    generalize (t - f) / 2 = A at *
    generalize t - f - A = B at *
    rw [hAB]
    have : (A + B) * (A + B) = A * A + A * B + (A * B + B * B) := by rw [Nat.add_mul, Nat.mul_add, Nat.mul_add, Nat.mul_comm B A]
    have h5 : A * 2 ≤ A * B := Nat.mul_le_mul_left _ hB
    have h6 : 1 * B ≤ A * B := Nat.mul_le_mul_right _ hA
    omega
   ·
    show (s4 bs mo n f t d s).dp ≤ _
    have a1 := F3.dp; have a2 := F4.dp
    have a3 : (s2 bs f t d s).dp = max s.dp d := rfl
    omega
/-- what adding is asked at -/
def Side (bs : List Bx) (n f t d : Nat) (s : Sta) : Prop := (∀ i ∈ s.l, i < bs.length) ∧ t - f ≤ n ∧ f < t ∧ t ≤ s.l.length ∧ s.l.length ≤ 1048576 ∧ s.ns.length + 2 * (t - f) ≤ 1073741824 ∧ s.st + (t - f) * (t - f) ≤ 1152921504606846976 ∧ d + (t - f) ≤ 1073741824 ∧ s.dp ≤ 1073741824
theorem sq_part {A B : Nat} (hA : 1 ≤ A) (hB : 2 ≤ B) : A + B + A * A ≤ (A + B) * (A + B) ∧ A + B + A * A + B * B ≤ (A + B) * (A + B) := by
 have h1 : (A + B) * (A + B) = A * A + A * B + (A * B + B * B) := by rw [Nat.add_mul, Nat.mul_add, Nat.mul_add, Nat.mul_comm B A]
 have h5 : A * 2 ≤ A * B := Nat.mul_le_mul_left _ hB
 have h6 : 1 * B ≤ A * B := Nat.mul_le_mul_right _ hA
 omega
theorem side_first {bs : List Bx} {n f t d : Nat} {s : Sta} (S : Side bs (n + 1) f t d s) (h : ¬ t - f ≤ 2) : Side bs n f (f + (t - f) / 2) (d + 1) (s2 bs f t d s) := by
 obtain ⟨a1, a2, a3, a4, a5, a6, a7, a8, a9⟩ := S
 have p2 : (s2 bs f t d s).l.Perm s.l := sorted_perm bs s.l f t (by omega) a4 _
 have e2 := p2.length_eq
 have n2 : (s2 bs f t d s).ns.length = s.ns.length + 1 := by show (s.ns ++ [_]).length = _; simp
 have st2 : (s2 bs f t d s).st = s.st + (t - f) := rfl
 have dp2 : (s2 bs f t d s).dp = max s.dp d := rfl
 have hA : 1 ≤ (t - f) / 2 := by omega
 have hB : 2 ≤ (t - f) - (t - f) / 2 := by omega
 have hAB : t - f = (t - f) / 2 + ((t - f) - (t - f) / 2) := by omega
 have hq := (sq_part hA hB).1
 rw [← hAB] at hq
 have e5 : f + (t - f) / 2 - f = (t - f) / 2 := by omega
 refine ⟨fun i hi => a1 i (p2.mem_iff.1 hi), by omega, by omega, by omega, by omega, by omega, ?_, by omega, by omega⟩
 rw [e5, st2]
 generalize (t - f) * (t - f) = X at *
 generalize (t - f) / 2 * ((t - f) / 2) = Y at *
 omega
theorem side_second {bs : List Bx} {mo : Int} {n f t d : Nat} {s : Sta} (S : Side bs (n + 1) f t d s) (h : ¬ t - f ≤ 2) : Side bs n (f + (t - f) / 2) t (d + 1) (s3 bs mo n f t d s) := by
 have S1 := side_first S h
 have F : Fine f (f + (t - f) / 2) (d + 1) (s2 bs f t d s) (s3 bs mo n f t d s) := add_fine bs mo n f (f + (t - f) / 2) (d + 1) (s2 bs f t d s) S1.2.1 S1.2.2.1 S1.2.2.2.1
 obtain ⟨a1, a2, a3, a4, a5, a6, a7, a8, a9⟩ := S
 have n2 : (s2 bs f t d s).ns.length = s.ns.length + 1 := by show (s.ns ++ [_]).length = _; simp
 have st2 : (s2 bs f t d s).st = s.st + (t - f) := rfl
 have dp2 : (s2 bs f t d s).dp = max s.dp d := rfl
 have e2 : (s2 bs f t d s).l.length = s.l.length := (sorted_perm bs s.l f t (by omega) a4 _).length_eq
 have e3 := F.l.length_eq
 obtain ⟨x, mr, e, -, hm⟩ := F.ns
 have n3 : (s3 bs mo n f t d s).ns.length = (s2 bs f t d s).ns.length + 1 + mr.length := by rw [e]; simp; omega
 have hA : 1 ≤ (t - f) / 2 := by omega
 have hB : 2 ≤ (t - f) - (t - f) / 2 := by omega
 have hAB : t - f = (t - f) / 2 + ((t - f) - (t - f) / 2) := by omega
 have hq := (sq_part hA hB).2
 rw [← hAB] at hq
 have e5 : f + (t - f) / 2 - f = (t - f) / 2 := by omega
 have e6 : t - (f + (t - f) / 2) = (t - f) - (t - f) / 2 := by omega
 have f2 := F.st2
 have fd := F.dp
 rw [e5] at f2 hm fd
 refine ⟨fun i hi => S1.1 i (F.l.mem_iff.1 hi), by omega, by omega, by omega, by omega, by omega, ?_, by omega, by omega⟩
 rw [e6]
 generalize (t - f) * (t - f) = X at *
 generalize (t - f) / 2 * ((t - f) / 2) = Y at *
 generalize (t - f - (t - f) / 2) * (t - f - (t - f) / 2) = Z at *
 omega
theorem kids_at {bs : List Bx} {mo : Int} {n f t d : Nat} {s : Sta} (S : Side bs (n + 1) f t d s) (h : ¬ t - f ≤ 2) : ∃ h : s.ns.length < (s4 bs mo n f t d s).ns.length, (s4 bs mo n f t d s).ns[s.ns.length] = ⟨boxS bs (segL s.l f t), f, t, -1, -1⟩ := by
 have S1 := side_first S h
 have S2 := side_second (mo := mo) S h
 have F3 : Fine f (f + (t - f) / 2) (d + 1) (s2 bs f t d s) (s3 bs mo n f t d s) := add_fine bs mo n f (f + (t - f) / 2) (d + 1) (s2 bs f t d s) S1.2.1 S1.2.2.1 S1.2.2.2.1
 have F4 : Fine (f + (t - f) / 2) t (d + 1) (s3 bs mo n f t d s) (s4 bs mo n f t d s) := add_fine bs mo n (f + (t - f) / 2) t (d + 1) (s3 bs mo n f t d s) S2.2.1 S2.2.2.1 S2.2.2.2.1
 obtain ⟨x3, m3, n3, -, l3⟩ := F3.ns
 obtain ⟨x4, m4, n4, -, l4⟩ := F4.ns
 have ns2 : (s2 bs f t d s).ns = s.ns ++ [⟨boxS bs (segL s.l f t), f, t, -1, -1⟩] := rfl
 have hn : (s4 bs mo n f t d s).ns = s.ns ++ (⟨boxS bs (segL s.l f t), f, t, -1, -1⟩ :: ((x3 :: m3) ++ (x4 :: m4))) := by rw [n4, n3, ns2]; simp
 refine ⟨by rw [hn]; simp, ?_⟩
 simp [hn]
/-! the tree's nodes, as they lie in a row -/
def flatN (m : Msh) : Tr → Nat → Nat → List Nd
 | .leaf l, _, f => [⟨boxL m l, f, f + l.length, -1, -1⟩]
 | .node l a b, i, f => ⟨boxL m l, f, f + l.length, ((i + 1 : Nat) : Int), ((i + 1 + nodesT a : Nat) : Int)⟩ :: (flatN m a (i + 1) f ++ flatN m b (i + 1 + nodesT a) (f + a.l.length))
def leavesT : Tr → List Nat
 | .leaf l => l
 | .node _ a b => leavesT a ++ leavesT b
theorem flat_node (m : Msh) (l : List Nat) (a b : Tr) (i f : Nat) : flatN m (.node l a b) i f = ⟨boxL m l, f, f + l.length, ((i + 1 : Nat) : Int), ((i + 1 + nodesT a : Nat) : Int)⟩ :: (flatN m a (i + 1) f ++ flatN m b (i + 1 + nodesT a) (f + a.l.length)) := rfl
theorem leaves_node (l : List Nat) (a b : Tr) : leavesT (.node l a b) = leavesT a ++ leavesT b := rfl
theorem steps_node (l : List Nat) (a b : Tr) : stepsT (.node l a b) = l.length + stepsT a + stepsT b := rfl
theorem deep_node (l : List Nat) (a b : Tr) : deepT (.node l a b) = 1 + max (deepT a) (deepT b) := rfl
theorem flat_length (m : Msh) : ∀ (t : Tr) (i f : Nat), (flatN m t i f).length = nodesT t := by
 intro t
 induction t with
 | leaf l => intro i f; rfl
 | node l a b iha ihb => intro i f; unfold flatN nodesT; rw [List.length_cons, List.length_append, iha, ihb]; omega
theorem leaves_length : ∀ t : Tr, t.good → (leavesT t).length = t.l.length := by
 intro t
 induction t with
 | leaf l => intro h; rfl
 | node l a b iha ihb =>
  intro h
  have := h.2.2.length_eq
  rw [List.length_append] at this
  show (leavesT a ++ leavesT b).length = l.length
  rw [List.length_append, iha h.1, ihb h.2.1]; exact this
theorem leaves_perm : ∀ t : Tr, t.good → (leavesT t).Perm t.l := by
 intro t
 induction t with
 | leaf l => intro h; exact .refl _
 | node l a b iha ihb => intro h; exact ((iha h.1).append (ihb h.2.1)).trans h.2.2
def boxesM (m : Msh) : List Bx := (List.range (m.ts.length + m.bs.length)).map fun (i : Nat) => boxF m (i : Int)
theorem boxes_at (m : Msh) (i : Nat) : (boxesM m).getD i zeroB = boxF m (i : Int) := by
 unfold boxesM
 by_cases h : i < m.ts.length + m.bs.length
 ·
  simp [h]
 ·
  rw [List.getD_eq_getElem?_getD, List.getElem?_eq_none (by simp; omega)]
  unfold boxF
  rw [if_pos (.inr (by omega))]; rfl
theorem leN_boxes (m : Msh) (ax : Nat) : leN ax (boxesM m) = leF m ax := by
 funext i j
 unfold leN leF
 rw [boxes_at, boxes_at]
 have h : ∀ k : Nat, keyB ax (boxF m (k : Int)) = keyF m ax k := by
  intro k; match ax with
  | 0 => rfl
  | 1 => rfl
  | n + 2 => rfl
 rw [h, h]
theorem boxS_boxes (m : Msh) (l : List Nat) : boxS (boxesM m) l = boxL m l := by
 cases l with
 | nil => rfl
 | cons i l =>
  show l.foldl (fun (b : Bx) (j : Nat) => joinB b ((boxesM m).getD j zeroB)) ((boxesM m).getD i zeroB) = l.foldl (fun (b : Bx) (j : Nat) => joinB b (boxF m (j : Int))) (boxF m (i : Int))
  simp only [boxes_at]
theorem deep_pos : ∀ t : Tr, 1 ≤ deepT t := by intro t; cases t <;> (unfold deepT; omega)
/-- what adding leaves, where the steps suffice; where they do not, more were counted than may be -/
theorem add_tree (m : Msh) (mo : Int) : ∀ (n f t d : Nat) (s : Sta), t - f ≤ n → f < t → t ≤ s.l.length →
  (((s.st + stepsT (treeF m n (segL s.l f t)) : Nat) : Int) ≤ mo → addP (boxesM m) mo n f t d s = ⟨s.ns ++ flatN m (treeF m n (segL s.l f t)) s.ns.length f, putSeg s.l f (leavesT (treeF m n (segL s.l f t))), max s.dp (d + deepT (treeF m n (segL s.l f t)) - 1), s.st + stepsT (treeF m n (segL s.l f t))⟩) ∧
  (mo < ((s.st + stepsT (treeF m n (segL s.l f t)) : Nat) : Int) → mo < (((addP (boxesM m) mo n f t d s).st : Nat) : Int)) := by
 intro n
 induction n with
 | zero => intro f t d s h1 h2; omega
 | succ n ih =>
  intro f t d s h1 h2 h3
  have hs := segL_length s.l f t h3
  by_cases hle : t - f ≤ 2
  ·
   have e : treeF m (n + 1) (segL s.l f t) = .leaf (segL s.l f t) := by unfold treeF; rw [if_pos (by omega)]
   rw [e, addP_stop _ _ _ _ _ _ _ (.inl hle)]
   constructor
   ·
    intro _
    unfold s1 flatN leavesT deepT stepsT
    rw [put_same s.l f t (by omega) h3, boxS_boxes, hs, show f + (t - f) = t by omega, show d + 1 - 1 = d by omega]
   ·
    intro h
    show mo < (((s.st + (t - f) : Nat)) : Int)
    unfold stepsT at h; rw [hs] at h; exact h
  ·
   obtain ⟨S, hS⟩ : ∃ S, S = sortF m (axisF (boxL m (segL s.l f t))) (segL s.l f t) := ⟨_, rfl⟩
   have lS : S.length = t - f := by rw [hS, sort_length, hs]
   have e : treeF m (n + 1) (segL s.l f t) = .node (segL s.l f t) (treeF m n (S.take ((t - f) / 2))) (treeF m n (S.drop ((t - f) / 2))) := by
    rw [hS]; conv => lhs; unfold treeF
    rw [if_neg (by omega), hs]
   rw [e]
   by_cases hst : mo < ((s.st + (t - f) : Nat) : Int)
   ·
    rw [addP_stop _ _ _ _ _ _ _ (.inr hst)]
    constructor
    ·
     intro h; exfalso; unfold stepsT at h; rw [hs] at h; omega
    ·
     intro _; exact hst
   ·
    have hgo : ¬ (t - f ≤ 2 ∨ mo < ((s.st + (t - f) : Nat) : Int)) := by omega
    rw [addP_go _ _ _ _ _ _ _ hgo]
    obtain ⟨h2', hh⟩ : ∃ h2', h2' = (t - f) / 2 := ⟨_, rfl⟩
    rw [← hh]
    have l2 : (s2 (boxesM m) f t d s).l = putSeg s.l f S := by
     show putSeg s.l f _ = _
     rw [boxS_boxes, leN_boxes, hS]; rfl
    have len2 : (s2 (boxesM m) f t d s).l.length = s.l.length := by rw [l2]; exact putSeg_length _ _ _ (by omega)
    have st2 : (s2 (boxesM m) f t d s).st = s.st + (t - f) := rfl
    have ns2 : (s2 (boxesM m) f t d s).ns = s.ns ++ [⟨boxL m (segL s.l f t), f, t, -1, -1⟩] := by show s.ns ++ _ = _; rw [boxS_boxes]
    have dp2 : (s2 (boxesM m) f t d s).dp = max s.dp d := rfl
    have seg1 : segL (s2 (boxesM m) f t d s).l f (f + h2') = S.take h2' := by
     rw [l2]
     have := seg_put s.l f S (by omega) 0 h2' (by omega)
     rw [List.drop_zero, Nat.sub_zero] at this
     exact this
    have I3 := ih f (f + h2') (d + 1) (s2 (boxesM m) f t d s) (by omega) (by omega) (by omega)
    have F3 := add_fine (boxesM m) mo n f (f + h2') (d + 1) (s2 (boxesM m) f t d s) (by omega) (by omega) (by omega)
    have E3 : addP (boxesM m) mo n f (f + h2') (d + 1) (s2 (boxesM m) f t d s) = s3 (boxesM m) mo n f t d s := by unfold s3; rw [hh]
    rw [E3] at I3 F3
    rw [seg1] at I3
    have len3 := F3.l.length_eq
    have seg2 : segL (s3 (boxesM m) mo n f t d s).l (f + h2') t = S.drop h2' := by
     rw [F3.out _ _ (.inr (Nat.le_refl _)), l2]
     have := seg_put s.l f S (by omega) h2' (t - f) (by omega)
     rw [show f + (t - f) = t by omega] at this
     rw [this, List.take_of_length_le (by simp; omega)]
    have I4 := ih (f + h2') t (d + 1) (s3 (boxesM m) mo n f t d s) (by omega) (by omega) (by omega)
    have F4 := add_fine (boxesM m) mo n (f + h2') t (d + 1) (s3 (boxesM m) mo n f t d s) (by omega) (by omega) (by omega)
    have E4 : addP (boxesM m) mo n (f + h2') t (d + 1) (s3 (boxesM m) mo n f t d s) = s4 (boxesM m) mo n f t d s := by unfold s4; rw [hh]
    rw [E4] at I4 F4
    rw [seg2] at I4
    have gA := tree_good m n (S.take h2') (by rw [List.length_take]; omega) (by rw [List.length_take]; omega)
    have gB := tree_good m n (S.drop h2') (by rw [List.length_drop]; omega) (by rw [List.length_drop]; omega)
    have lA := leaves_length _ gA
    have lB := leaves_length _ gB
    rw [tree_l] at lA lB
    have tlA : (treeF m n (S.take h2')).l = S.take h2' := tree_l _ _ _
    generalize treeF m n (S.take h2') = A at *
    generalize treeF m n (S.drop h2') = B at *
    constructor
    ·
     intro h
     unfold stepsT at h; rw [hs] at h
     have r3 := I3.1 (by omega)
     have q3 : (s3 (boxesM m) mo n f t d s).st = s.st + (t - f) + stepsT A := by rw [r3, st2]
     have r4 := I4.1 (by omega)
     have n3 : (s3 (boxesM m) mo n f t d s).ns = s.ns ++ (⟨boxL m (segL s.l f t), f, t, -1, -1⟩ :: flatN m A (s.ns.length + 1) f) := by
      rw [r3]; dsimp only; rw [ns2]; simp
     have k3 : (s3 (boxesM m) mo n f t d s).ns.length = s.ns.length + 1 + nodesT A := by rw [n3]; simp [flat_length]; omega
     have n4 : (s4 (boxesM m) mo n f t d s).ns = s.ns ++ (⟨boxL m (segL s.l f t), f, t, -1, -1⟩ :: (flatN m A (s.ns.length + 1) f ++ flatN m B (s.ns.length + 1 + nodesT A) (f + h2'))) := by
      rw [r4]; dsimp only; rw [k3, n3]; simp
     rw [n4, List.set_append_right _ _ (Nat.le_refl _), Nat.sub_self, List.set_cons_zero, k3]
     have L4 : (s4 (boxesM m) mo n f t d s).l = putSeg s.l f (leavesT A ++ leavesT B) := by
      rw [r4]; dsimp only
      have : (s3 (boxesM m) mo n f t d s).l = putSeg (putSeg s.l f S) f (leavesT A) := by rw [r3]; dsimp only; rw [l2]
      rw [this, show f + h2' = f + (leavesT A).length by rw [lA, List.length_take]; omega]
      exact put_put s.l f S _ _ (by omega) (by rw [lA, lB, List.length_take, List.length_drop]; omega)
     have D4 : (s4 (boxesM m) mo n f t d s).dp = max s.dp (d + (1 + max (deepT A) (deepT B)) - 1) := by
      rw [r4]; dsimp only; rw [r3]; dsimp only; rw [dp2]
      have := deep_pos A
      have := deep_pos B
      omega
     have S4 : (s4 (boxesM m) mo n f t d s).st = s.st + ((t - f) + stepsT A + stepsT B) := by rw [r4]; dsimp only; rw [q3]; omega
     rw [L4, D4, S4, boxS_boxes]
     rw [flat_node, leaves_node, steps_node, deep_node]
     rw [hs, tlA, List.length_take, show f + (t - f) = t by omega, show min h2' S.length = h2' by omega]
    ·
     intro h
     unfold stepsT at h; rw [hs] at h
     show mo < (((s4 (boxesM m) mo n f t d s).st : Nat) : Int)
     by_cases c3 : mo < (((s2 (boxesM m) f t d s).st + stepsT A : Nat) : Int)
     ·
      have := I3.2 c3
      have := F4.st1
      omega
     ·
      have r3 := I3.1 (by omega)
      have q3 : (s3 (boxesM m) mo n f t d s).st = s.st + (t - f) + stepsT A := by rw [r3, st2]
      exact I4.2 (by omega)
end Go.Proofs.YtdaokkgenfpmhaaGreat.BvhS

/-
  DERIVED: THE SHELF's CONTRACTS AT THIS DUMP, IN PLAIN WORDS (tools/lay-plain.mjs out of 'YtdaokkgenfpmhaaGreatSortL.lean', which tools/lay-shelf.mjs wrote): THE SAME DECLARATIONS UNDER THE SAME NAMES: 'import', 'namespace', 'open', 'def', 'theorem' AND NOTHING ELSE: no command of the shelf's: FOR A HAND-IN. Each laying: the table of numbers ('.._ren') and one theorem, a field a fact of the dump's own or the kernel's comparison; each contract: ONE APPLICATION.
-/
namespace Go.Proofs
open Go.Shelf
def Tryz.sortL_ren : Go.Shelf.Ren := ⟨fun | 6 => 62 | 15 => 84 | 14 => 83 | 28 => 111 | 29 => 112 | 20 => 103 | 21 => 104 | 22 => 105 | 23 => 106 | 24 => 107 | 25 => 108 | 26 => 109 | 27 => 110 | 46 => 115 | 47 => 116 | 48 => 117 | 49 => 118 | 50 => 119 | 57 => 120 | n => n, fun | 22 => 22 | 24 => 3 | 25 => 115 | 3 => 3 | 39 => 75 | 0 => 0 | 53 => 146 | 55 => 119 | 4 => 4 | 46 => 139 | 45 => 138 | 50 => 143 | 5 => 5 | 9 => 9 | 66 => 148 | 70 => 152 | 76 => 154 | 77 => 38 | n => n, fun | n => n⟩
theorem Tryz.sortL : Go.Proofs.SlLaysF.n6 Tryz.prog Tryz.sortL_ren := {
 mixed := by kernel_rfl
 f6 := ⟨Tryz.f62.name, by decide, Tryz.func62.trans (congrArg some (by kernel_rfl))⟩
 f14 := ⟨Tryz.f83.name, by decide, Tryz.func83.trans (congrArg some (by kernel_rfl))⟩
 f15 := Tryz.func84.trans (congrArg some (by kernel_rfl))
 f20 := ⟨Tryz.f103.name, by decide, Tryz.func103.trans (congrArg some (by kernel_rfl))⟩
 f21 := ⟨Tryz.f104.name, by decide, Tryz.func104.trans (congrArg some (by kernel_rfl))⟩
 f22 := ⟨Tryz.f105.name, by decide, Tryz.func105.trans (congrArg some (by kernel_rfl))⟩
 f23 := ⟨Tryz.f106.name, by decide, Tryz.func106.trans (congrArg some (by kernel_rfl))⟩
 f24 := ⟨Tryz.f107.name, by decide, Tryz.func107.trans (congrArg some (by kernel_rfl))⟩
 f25 := ⟨Tryz.f108.name, by decide, Tryz.func108.trans (congrArg some (by kernel_rfl))⟩
 f26 := ⟨Tryz.f109.name, by decide, Tryz.func109.trans (congrArg some (by kernel_rfl))⟩
 f27 := ⟨Tryz.f110.name, by decide, Tryz.func110.trans (congrArg some (by kernel_rfl))⟩
 f28 := Tryz.func111.trans (congrArg some (by kernel_rfl))
 f29 := Tryz.func112.trans (congrArg some (by kernel_rfl))
 f46 := ⟨Tryz.f115.name, by decide, Tryz.func115.trans (congrArg some (by kernel_rfl))⟩
 f47 := Tryz.func116.trans (congrArg some (by kernel_rfl))
 f48 := Tryz.func117.trans (congrArg some (by kernel_rfl))
 f49 := ⟨Tryz.f118.name, by decide, Tryz.func118.trans (congrArg some (by kernel_rfl))⟩
 f50 := ⟨Tryz.f119.name, by decide, Tryz.func119.trans (congrArg some (by kernel_rfl))⟩
 f57 := ⟨Tryz.f120.name, by decide, Tryz.func120.trans (congrArg some (by kernel_rfl))⟩
 t0 := Tryz.underlying0
 a0 := Tryz.isAgg0
 z0 := Tryz.sizeOf0
 v0 := Tryz.zeroValue0
 t3 := Tryz.underlying3
 a3 := Tryz.isAgg3
 z3 := Tryz.sizeOf3
 v3 := Tryz.zeroValue3
 t4 := Tryz.underlying4
 a4 := Tryz.isAgg4
 z4 := Tryz.sizeOf4
 v4 := Tryz.zeroValue4
 t5 := Tryz.underlying5
 a5 := Tryz.isAgg5
 z5 := Tryz.sizeOf5
 v5 := Tryz.zeroValue5
 t9 := Tryz.underlying9
 a9 := Tryz.isAgg9
 z9 := Tryz.sizeOf9
 v9 := Tryz.zeroValue9
 t22 := Tryz.underlying22
 a22 := Tryz.isAgg22
 z22 := Tryz.sizeOf22
 v22 := Tryz.zeroValue22
 a24 := Tryz.isAgg3
 z24 := Tryz.sizeOf3
 t25 := Tryz.underlying115
 a25 := Tryz.isAgg115
 z25 := Tryz.sizeOf115
 v25 := Tryz.zeroValue115
 t39 := Tryz.underlying75
 a39 := Tryz.isAgg75
 z39 := Tryz.sizeOf75
 v39 := Tryz.zeroValue75
 t45 := Tryz.underlying138
 a45 := Tryz.isAgg138
 z45 := Tryz.sizeOf138
 v45 := Tryz.zeroValue138
 t46 := Tryz.underlying139
 a46 := Tryz.isAgg139
 z46 := Tryz.sizeOf139
 v46 := Tryz.zeroValue139
 t50 := Tryz.underlying143
 a50 := Tryz.isAgg143
 z50 := Tryz.sizeOf143
 v50 := Tryz.zeroValue143
 t53 := Tryz.underlying146
 a53 := Tryz.isAgg146
 z53 := Tryz.sizeOf146
 v53 := Tryz.zeroValue146
 t55 := Tryz.underlying119
 a55 := Tryz.isAgg119
 z55 := Tryz.sizeOf119
 v55 := Tryz.zeroValue119
 t66 := Tryz.underlying148
 a66 := Tryz.isAgg148
 z66 := Tryz.sizeOf148
 v66 := Tryz.zeroValue148
 t70 := Tryz.underlying152
 a70 := Tryz.isAgg152
 z70 := Tryz.sizeOf152
 v70 := Tryz.zeroValue152
 t76 := Tryz.underlying154
 a76 := Tryz.isAgg154
 z76 := Tryz.sizeOf154
 v76 := Tryz.zeroValue154
 t77 := Tryz.underlying38
 a77 := Tryz.isAgg38
 z77 := Tryz.sizeOf38
 v77 := Tryz.zeroValue38 }
end Go.Proofs

/- slices.SortFunc over a part of the order, by the kit's contract. -/
set_option linter.unusedVariables false
set_option linter.unusedSimpArgs false
namespace Go.Proofs.YtdaokkgenfpmhaaGreat.BvhS
open Go Go.RowKit Go.Sort Go.Lib FixM Base Num VecW MeshM Rec MeshA MeshP HitM BvhM BvhA BvhB
section
variable {n : Nat}
/-- the comparison of shapes -/
def cfN (ax : Nat) (bs : List Bx) (x y : Fin (n + 1)) : Int := cfB ax bs x.val y.val
def kN (ax : Nat) (bs : List Bx) (x : Fin (n + 1)) : Int := keyB ax (bs.getD x.val zeroB)
theorem lt_iff (ax : Nat) (bs : List Bx) (x y : Fin (n + 1)) : ltOf (cfN ax bs) x y = true ↔ (kN ax bs x < kN ax bs y ∨ (kN ax bs x = kN ax bs y ∧ x.val < y.val)) := by
 unfold ltOf cfN cfB orF cmpF kN
 rw [decide_eq_true_iff]
 generalize keyB ax (bs.getD x.val zeroB) = a
 generalize keyB ax (bs.getD y.val zeroB) = b
 by_cases h1 : a < b
 ·
  simp [h1]
 ·
  by_cases h2 : b < a
  ·
   simp [h1, h2]; omega
  ·
   have e : a = b := by omega
   subst e
   by_cases h3 : x.val < y.val
   ·
    simp [h3]
   ·
    by_cases h4 : y.val < x.val
    ·
     simp [h3, h4]
    ·
     simp [h3, h4]
theorem lt_not (ax : Nat) (bs : List Bx) (x y : Fin (n + 1)) : ltOf (cfN ax bs) x y = false ↔ ¬ (kN ax bs x < kN ax bs y ∨ (kN ax bs x = kN ax bs y ∧ x.val < y.val)) := by
 rw [← lt_iff, Bool.not_eq_true]
theorem swoN (ax : Nat) (bs : List Bx) : SWO (ltOf (cfN (n := n) ax bs)) where
 irrefl x := by rw [lt_not]; omega
 trans x y z h1 h2 := by rw [lt_iff] at *; omega
 ntrans x y z h1 h2 := by rw [lt_not] at *; omega
theorem totN (ax : Nat) (bs : List Bx) (x y : Fin (n + 1)) (h1 : ltOf (cfN ax bs) x y = false) (h2 : ltOf (cfN ax bs) y x = false) : x = y := by
 rw [lt_not] at *
 exact Fin.ext (by omega)
theorem ge_le (ax : Nat) (bs : List Bx) (x y : Fin (n + 1)) : (!(ltOf (cfN ax bs) y x)) = leN ax bs x.val y.val := by
 cases h : ltOf (cfN ax bs) y x with
 | true =>
  rw [lt_iff] at h
  unfold kN at h
  unfold leN
  simp only [Bool.not_true]
  symm
  rw [Bool.or_eq_false_iff, Bool.and_eq_false_iff]
  simp only [decide_eq_false_iff_not]
  omega
 | false =>
  rw [lt_not] at h
  unfold kN at h
  unfold leN
  simp only [Bool.not_false]
  symm
  rw [Bool.or_eq_true, Bool.and_eq_true]
  simp only [decide_eq_true_eq]
  omega
theorem sorted_val (ax : Nat) (bs : List Bx) (d : List (Fin (n + 1))) : ((d.mergeSort fun x y => !(ltOf (cfN ax bs)) y x).map Fin.val) = (d.map Fin.val).mergeSort (leN ax bs) :=
 List.map_mergeSort (fun a _ b _ => ge_le ax bs a b)
abbrev encFin (x : Fin (n + 1)) : Value := .int .i64 ((x.val : Nat) : Int)
theorem one_encFin : OneCell (encFin (n := n)) := fun _ => rfl
/-- the world that a sort leaves: one block alone has turned -/
theorem sort_keeps (w : World) (blk off m : Nat) (dk : Array (Fin (n + 1))) (os : Array Obj) : Keeps (fun k => k = blk) w (sortWorld encFin w blk off m dk os) where
 os := rfl
 tape := rfl
 output := rfl
 size := by unfold sortWorld; simp only [size_grow]; show _ ≤ (w.heap.modify blk _).size + _; rw [Array.size_modify]; omega
 block := fun k hk hn => by
  unfold sortWorld
  have e : (putRow encFin (Sort.ahead w m) blk off dk).heap[k]? = w.heap[k]? := by
   show (w.heap.modify blk _)[k]? = _
   rw [Array.getElem?_modify, if_neg (fun e => hn e.symm)]
  rw [heap_grow_old _ _ (by show k < (w.heap.modify blk _).size; rw [Array.size_modify]; exact hk), e]
theorem sort_row {w : World} {blk : Nat} {cur : Array Value} {E : TypeId} {fr : Nat × Nat} (h : w.heap[blk]? = some (.cells cur E fr)) (off m : Nat) (dk : Array (Fin (n + 1))) (os : Array Obj) : (sortWorld encFin w blk off m dk os).heap[blk]? = some (.cells (putCells encFin off dk cur) E fr) := by
 have hk := Base.lt_of_heap h
 unfold sortWorld
 rw [heap_grow_old _ _ (by show blk < (w.heap.modify blk _).size; rw [Array.size_modify]; exact hk)]
 show (w.heap.modify blk _)[blk]? = _
 rw [Array.getElem?_modify, if_pos rfl, h]
 rfl
end
theorem own_seg {n N E base : Nat} {w w' : World} {v : Value} {l : List Nat} (h : Own .i64 N E base w v l) (blk cap : Nat) (hv : v = .slice (some ⟨blk, 0, none⟩) l.length cap) (f : Nat) (dk : Array (Fin (n + 1))) (hf : f + dk.size ≤ l.length) (hN : n < N)
  (m : Nat) (os : Array Obj) (hw : w' = sortWorld encFin w blk f m dk os) : Own .i64 N E base w' v (putSeg l f (dk.toList.map Fin.val)) := by
 have hsl : (dk.toList.map Fin.val).length = dk.size := by simp
 refine ⟨⟨?_, ?_⟩, ?_⟩
 ·
  rw [putSeg_length _ _ _ (by rw [hsl]; exact hf)]; simp [numCells, putSeg_length _ _ _ (show f + (dk.toList.map Fin.val).length ≤ l.length by rw [hsl]; exact hf)]
 ·
  rcases h.row.2 with ⟨e, h0⟩ | ⟨g, cp, cur, e, hbg, hg, h1, h2, h3, h4⟩
  ·
   rw [e] at hv; simp at hv
  ·
   rw [e] at hv
   simp only [Value.slice.injEq, Option.some.injEq, Addr.mk.injEq, and_true] at hv
   obtain ⟨rfl, -, rfl⟩ := hv
   refine .inr ⟨g, cp, putCells encFin f dk cur, by rw [putSeg_length _ _ _ (by rw [hsl]; exact hf)]; exact e, hbg, by rw [hw]; exact sort_row hg f m dk os, by rw [putSeg_length _ _ _ (by rw [hsl]; exact hf)]; exact h1, h2, by unfold putCells; rw [Array.size_mapIdx]; exact h3, ?_⟩
   rw [putSeg_length _ _ _ (by rw [hsl]; exact hf)]
   apply List.ext_getElem?
   intro k
   have hcell : ∀ k, k < l.length → cur[k]? = some (.int .i64 ((l.getD k 0 : Nat) : Int)) := by
    intro k hk
    have : (cur.toList.take (l.length * 1))[k]? = (numCells .i64 l)[k]? := by rw [h4]
    rw [List.getElem?_take_of_lt (by omega), numCells_at .i64 l k hk] at this
    rw [← Array.getElem?_toList, this]
    simp [hk]
   by_cases hk : k < l.length
   ·
    rw [List.getElem?_take_of_lt (by omega)]
    have hr : (numCells .i64 (putSeg l f (dk.toList.map Fin.val)))[k]? = ((putSeg l f (dk.toList.map Fin.val))[k]?).map (fun (x : Nat) => Value.int .i64 (x : Int)) := by unfold numCells; rw [List.getElem?_map]
    rw [hr, putSeg_at _ _ _ (by rw [hsl]; exact hf), hsl, Array.getElem?_toList]
    unfold putCells
    rw [Array.getElem?_mapIdx, hcell k hk]
    by_cases hb : f ≤ k ∧ k < f + dk.size
    ·
     rw [if_pos hb, Option.map_some, if_pos hb]
     have hlt : k - f < dk.size := by omega
     rw [List.getElem?_map, Array.getElem?_toList, Array.getElem?_eq_getElem hlt, getElem!_pos dk (k - f) hlt]
     rfl
    ·
     rw [if_neg hb, Option.map_some, if_neg hb, List.getElem?_eq_getElem hk]
     simp [hk]
   ·
    rw [List.getElem?_eq_none (by simp; omega), List.getElem?_eq_none (by simp [numCells, putSeg_length _ _ _ (show f + (dk.toList.map Fin.val).length ≤ l.length by rw [hsl]; exact hf)]; omega)]
 ·
  intro x hx
  unfold putSeg at hx
  simp only [List.mem_append] at hx
  rcases hx with (hx | hx) | hx
  ·
   exact h.bound x (List.mem_of_mem_take hx)
  ·
   obtain ⟨y, -, rfl⟩ := List.mem_map.1 hx; have := y.isLt; omega
  ·
   exact h.bound x (List.mem_of_mem_drop hx)
end Go.Proofs.YtdaokkgenfpmhaaGreat.BvhS

/- slices.SortFunc over a part of the order: what layer 14's sort calls. -/
set_option linter.unusedVariables false
set_option linter.unusedSimpArgs false
namespace Go.Proofs.YtdaokkgenfpmhaaGreat.BvhT
open Go Go.RowKit Go.Sort Go.Lib FixM Base Num VecW MeshM Rec MeshA MeshP HitM BvhM BvhA BvhB BvhS
theorem _root_.Go.Proofs.YtdaokkgenfpmhaaGreat.BvhB.KeyAt.frame {W W' : World} {F : FuncId} {gK gP gM : Nat} {vb : Value} {bs : List Bx} {S : Nat → Prop} (h : KeyAt W F gK gP gM vb bs) (hk : Keeps S W W') (nK : ¬ S gK) (nP : ¬ S gP) (nM : ¬ S gM) (nb : ∀ b, vb.ownBlock = some b → ¬ S b) : KeyAt W' F gK gP gM vb bs :=
 ⟨(World.cell?_of_block (a := ⟨gK, 0, none⟩) (hk.block gK h.lk nK)).trans h.k, (World.cell?_of_block (a := ⟨gP, 0, none⟩) (hk.block gP h.lp nP)).trans h.p, (World.cell?_of_block (a := ⟨gM, 1, none⟩) (hk.block gM h.lm nM)).trans h.m, h.b.frame hk nb,
  Nat.lt_of_lt_of_le h.lk hk.size, Nat.lt_of_lt_of_le h.lp hk.size, Nat.lt_of_lt_of_le h.lm hk.size⟩
/-- the numbers of a part, as numbers below n + 1 -/
def finL (n : Nat) (l : List Nat) : List (Fin (n + 1)) := l.map fun i => Fin.ofNat (n + 1) i
theorem finL_val (n : Nat) (l : List Nat) (h : ∀ i ∈ l, i < n + 1) : (finL n l).map Fin.val = l := by
 unfold finL
 rw [List.map_map]
 conv => rhs; rw [← List.map_id l]
 apply List.map_congr_left
 intro i hi
 show i % (n + 1) = i
 exact Nat.mod_eq_of_lt (h i hi)
theorem holds_seg {N E base : Nat} {w : World} {blk cap : Nat} {l : List Nat} (h : Own .i64 N E base w (.slice (some ⟨blk, 0, none⟩) l.length cap) l) (f t n : Nat) (hft : f < t) (ht : t ≤ l.length) (hn : ∀ i ∈ l, i < n + 1) :
  Holds encFin w blk f (finL n ((l.drop f).take (t - f))).toArray := by
 obtain ⟨g, cp, e, _, _, _, hc, hf, _⟩ := h.at_ (by omega)
 simp only [Value.slice.injEq, Option.some.injEq, Addr.mk.injEq, and_true, true_and] at e
 obtain ⟨rfl, -⟩ := e
 intro j hj
 refine ⟨?_, hf _⟩
 have hj2 : j < t - f := by simp [finL] at hj; omega
 rw [hc (f + j) (by omega)]
 have hsz : j < (finL n ((l.drop f).take (t - f))).toArray.size := hj
 rw [getElem!_pos _ j hsz]
 have hv : ((finL n ((l.drop f).take (t - f))).toArray[j]).val = l[f + j]'(by omega) := by
  simp only [finL, List.getElem_toArray, List.getElem_map, List.getElem_take, List.getElem_drop]
  show l[f + j] % (n + 1) = l[f + j]
  exact Nat.mod_eq_of_lt (hn _ (List.getElem_mem _))
 unfold encFin
 rw [hv]

set_option maxRecDepth 100000 in
set_option maxHeartbeats 4000000 in
theorem sortFunc0_any (base gK gP gM blk cap : Nat) (vb : Value) (bs : List Bx) (l : List Nat) (w : World) (h : KeyAt w 59 gK gP gM vb bs) (ok : ∀ b ∈ bs, HitM.Bx.ok b) (ho : Own .i64 9223372036854775808 3 base w (.slice (some ⟨blk, 0, none⟩) l.length cap) l)
  (hl : ∀ i ∈ l, i < bs.length) (hb : bs.length ≤ 4611686018427387903) (hll : l.length ≤ 4611686018427387903) (f t c : Nat) (hft : f < t) (ht : t ≤ l.length) (nK : gK ≠ blk) (nP : gP ≠ blk) (nM : gM ≠ blk) (nb : vb.ownBlock ≠ some blk) :
  Calls Tryz.prog 62 #[.slice (some ⟨blk, f, none⟩) (t - f) c, .func (.func 63) #[] #[.pointer (some ⟨gK, 0, none⟩)]] w (fun e w' => e = .returned (.tuple #[]) ∧ Own .i64 9223372036854775808 3 base w' (.slice (some ⟨blk, 0, none⟩) l.length cap) (putSeg l f (((l.drop f).take (t - f)).mergeSort (leN 0 bs))) ∧ Keeps (fun k => k = blk) w w') := by
 obtain ⟨n, hn⟩ : ∃ n, bs.length = n + 1 := ⟨bs.length - 1, by have := hl l[f] (List.getElem_mem (by omega)); omega⟩
 have hl2 : ∀ i ∈ l, i < n + 1 := fun i hi => by have := hl i hi; omega
 have hseg : ∀ i ∈ (l.drop f).take (t - f), i < n + 1 := fun i hi => hl2 i (List.mem_of_mem_drop (List.mem_of_mem_take hi))
 have hH := holds_seg ho f t n hft ht hl2
 have hsz : (finL n ((l.drop f).take (t - f))).toArray.size = t - f := by simp [finL]; omega
 have hblk : blk < w.heap.size := (ho.lt blk rfl).2
 have eg : ∀ args w, (callFunc 63 args).run Tryz.prog w = .ok (.enter 63 args) w := enters_of Tryz.func63 (by kernel_rfl) rfl
 have hcmp : CmpLays1 Tryz.prog 63 #[.pointer (some ⟨gK, 0, none⟩)] encFin (cfN (n := n) 0 bs) blk f (finL n ((l.drop f).take (t - f))).toArray.size w := by
  intro m os dk hs x y
  have hk := h.frame (sort_keeps w blk f m dk os) nK nP nM (fun b hb e => nb (e ▸ hb))
  exact cmp0_any gK gP gM vb bs _ hk ok x.val y.val (by rw [hn]; exact x.isLt) (by rw [hn]; exact y.isLt)
 have hS := Any.slices_SortFunc_total Tryz.sortL (encFin (n := n)) one_encFin (cfN 0 bs) (swoN 0 bs) 63 #[.pointer (some ⟨gK, 0, none⟩)] blk f c (finL n ((l.drop f).take (t - f))).toArray w eg hcmp hH hblk (by rw [hsz]; omega) (totN 0 bs)
 rw [hsz] at hS
 change Calls Tryz.prog 62 _ _ _ at hS
 refine hS.mono ?_
 rintro e w' ⟨rfl, m, os, hw⟩
 have hv : (((finL n ((l.drop f).take (t - f))).toArray.toList.mergeSort fun x y => !(ltOf (cfN 0 bs)) y x).toArray.toList.map Fin.val) = ((l.drop f).take (t - f)).mergeSort (leN 0 bs) := by
  rw [List.toList_toArray, List.toList_toArray, sorted_val, finL_val n _ hseg]
 have hz2 : ((finL n ((l.drop f).take (t - f))).toArray.toList.mergeSort fun x y => !(ltOf (cfN 0 bs)) y x).toArray.size = t - f := by
  rw [List.size_toArray, List.length_mergeSort, ← Array.size_eq_length_toList, hsz]
 have := own_seg ho blk cap rfl f _ (by rw [hz2]; omega) (by omega) m os hw
 rw [hv] at this
 exact ⟨rfl, this, by rw [hw]; exact sort_keeps w blk f m _ os⟩

set_option maxRecDepth 100000 in
set_option maxHeartbeats 4000000 in
theorem sortFunc1_any (base gK gP gM blk cap : Nat) (vb : Value) (bs : List Bx) (l : List Nat) (w : World) (h : KeyAt w 60 gK gP gM vb bs) (ok : ∀ b ∈ bs, HitM.Bx.ok b) (ho : Own .i64 9223372036854775808 3 base w (.slice (some ⟨blk, 0, none⟩) l.length cap) l)
  (hl : ∀ i ∈ l, i < bs.length) (hb : bs.length ≤ 4611686018427387903) (hll : l.length ≤ 4611686018427387903) (f t c : Nat) (hft : f < t) (ht : t ≤ l.length) (nK : gK ≠ blk) (nP : gP ≠ blk) (nM : gM ≠ blk) (nb : vb.ownBlock ≠ some blk) :
  Calls Tryz.prog 62 #[.slice (some ⟨blk, f, none⟩) (t - f) c, .func (.func 63) #[] #[.pointer (some ⟨gK, 0, none⟩)]] w (fun e w' => e = .returned (.tuple #[]) ∧ Own .i64 9223372036854775808 3 base w' (.slice (some ⟨blk, 0, none⟩) l.length cap) (putSeg l f (((l.drop f).take (t - f)).mergeSort (leN 1 bs))) ∧ Keeps (fun k => k = blk) w w') := by
 obtain ⟨n, hn⟩ : ∃ n, bs.length = n + 1 := ⟨bs.length - 1, by have := hl l[f] (List.getElem_mem (by omega)); omega⟩
 have hl2 : ∀ i ∈ l, i < n + 1 := fun i hi => by have := hl i hi; omega
 have hseg : ∀ i ∈ (l.drop f).take (t - f), i < n + 1 := fun i hi => hl2 i (List.mem_of_mem_drop (List.mem_of_mem_take hi))
 have hH := holds_seg ho f t n hft ht hl2
 have hsz : (finL n ((l.drop f).take (t - f))).toArray.size = t - f := by simp [finL]; omega
 have hblk : blk < w.heap.size := (ho.lt blk rfl).2
 have eg : ∀ args w, (callFunc 63 args).run Tryz.prog w = .ok (.enter 63 args) w := enters_of Tryz.func63 (by kernel_rfl) rfl
 have hcmp : CmpLays1 Tryz.prog 63 #[.pointer (some ⟨gK, 0, none⟩)] encFin (cfN (n := n) 1 bs) blk f (finL n ((l.drop f).take (t - f))).toArray.size w := by
  intro m os dk hs x y
  have hk := h.frame (sort_keeps w blk f m dk os) nK nP nM (fun b hb e => nb (e ▸ hb))
  exact cmp1_any gK gP gM vb bs _ hk ok x.val y.val (by rw [hn]; exact x.isLt) (by rw [hn]; exact y.isLt)
 have hS := Any.slices_SortFunc_total Tryz.sortL (encFin (n := n)) one_encFin (cfN 1 bs) (swoN 1 bs) 63 #[.pointer (some ⟨gK, 0, none⟩)] blk f c (finL n ((l.drop f).take (t - f))).toArray w eg hcmp hH hblk (by rw [hsz]; omega) (totN 1 bs)
 rw [hsz] at hS
 change Calls Tryz.prog 62 _ _ _ at hS
 refine hS.mono ?_
 rintro e w' ⟨rfl, m, os, hw⟩
 have hv : (((finL n ((l.drop f).take (t - f))).toArray.toList.mergeSort fun x y => !(ltOf (cfN 1 bs)) y x).toArray.toList.map Fin.val) = ((l.drop f).take (t - f)).mergeSort (leN 1 bs) := by
  rw [List.toList_toArray, List.toList_toArray, sorted_val, finL_val n _ hseg]
 have hz2 : ((finL n ((l.drop f).take (t - f))).toArray.toList.mergeSort fun x y => !(ltOf (cfN 1 bs)) y x).toArray.size = t - f := by
  rw [List.size_toArray, List.length_mergeSort, ← Array.size_eq_length_toList, hsz]
 have := own_seg ho blk cap rfl f _ (by rw [hz2]; omega) (by omega) m os hw
 rw [hv] at this
 exact ⟨rfl, this, by rw [hw]; exact sort_keeps w blk f m _ os⟩

set_option maxRecDepth 100000 in
set_option maxHeartbeats 4000000 in
theorem sortFunc2_any (base gK gP gM blk cap : Nat) (vb : Value) (bs : List Bx) (l : List Nat) (w : World) (h : KeyAt w 61 gK gP gM vb bs) (ok : ∀ b ∈ bs, HitM.Bx.ok b) (ho : Own .i64 9223372036854775808 3 base w (.slice (some ⟨blk, 0, none⟩) l.length cap) l)
  (hl : ∀ i ∈ l, i < bs.length) (hb : bs.length ≤ 4611686018427387903) (hll : l.length ≤ 4611686018427387903) (f t c : Nat) (hft : f < t) (ht : t ≤ l.length) (nK : gK ≠ blk) (nP : gP ≠ blk) (nM : gM ≠ blk) (nb : vb.ownBlock ≠ some blk) :
  Calls Tryz.prog 62 #[.slice (some ⟨blk, f, none⟩) (t - f) c, .func (.func 63) #[] #[.pointer (some ⟨gK, 0, none⟩)]] w (fun e w' => e = .returned (.tuple #[]) ∧ Own .i64 9223372036854775808 3 base w' (.slice (some ⟨blk, 0, none⟩) l.length cap) (putSeg l f (((l.drop f).take (t - f)).mergeSort (leN 2 bs))) ∧ Keeps (fun k => k = blk) w w') := by
 obtain ⟨n, hn⟩ : ∃ n, bs.length = n + 1 := ⟨bs.length - 1, by have := hl l[f] (List.getElem_mem (by omega)); omega⟩
 have hl2 : ∀ i ∈ l, i < n + 1 := fun i hi => by have := hl i hi; omega
 have hseg : ∀ i ∈ (l.drop f).take (t - f), i < n + 1 := fun i hi => hl2 i (List.mem_of_mem_drop (List.mem_of_mem_take hi))
 have hH := holds_seg ho f t n hft ht hl2
 have hsz : (finL n ((l.drop f).take (t - f))).toArray.size = t - f := by simp [finL]; omega
 have hblk : blk < w.heap.size := (ho.lt blk rfl).2
 have eg : ∀ args w, (callFunc 63 args).run Tryz.prog w = .ok (.enter 63 args) w := enters_of Tryz.func63 (by kernel_rfl) rfl
 have hcmp : CmpLays1 Tryz.prog 63 #[.pointer (some ⟨gK, 0, none⟩)] encFin (cfN (n := n) 2 bs) blk f (finL n ((l.drop f).take (t - f))).toArray.size w := by
  intro m os dk hs x y
  have hk := h.frame (sort_keeps w blk f m dk os) nK nP nM (fun b hb e => nb (e ▸ hb))
  exact cmp2_any gK gP gM vb bs _ hk ok x.val y.val (by rw [hn]; exact x.isLt) (by rw [hn]; exact y.isLt)
 have hS := Any.slices_SortFunc_total Tryz.sortL (encFin (n := n)) one_encFin (cfN 2 bs) (swoN 2 bs) 63 #[.pointer (some ⟨gK, 0, none⟩)] blk f c (finL n ((l.drop f).take (t - f))).toArray w eg hcmp hH hblk (by rw [hsz]; omega) (totN 2 bs)
 rw [hsz] at hS
 change Calls Tryz.prog 62 _ _ _ at hS
 refine hS.mono ?_
 rintro e w' ⟨rfl, m, os, hw⟩
 have hv : (((finL n ((l.drop f).take (t - f))).toArray.toList.mergeSort fun x y => !(ltOf (cfN 2 bs)) y x).toArray.toList.map Fin.val) = ((l.drop f).take (t - f)).mergeSort (leN 2 bs) := by
  rw [List.toList_toArray, List.toList_toArray, sorted_val, finL_val n _ hseg]
 have hz2 : ((finL n ((l.drop f).take (t - f))).toArray.toList.mergeSort fun x y => !(ltOf (cfN 2 bs)) y x).toArray.size = t - f := by
  rw [List.size_toArray, List.length_mergeSort, ← Array.size_eq_length_toList, hsz]
 have := own_seg ho blk cap rfl f _ (by rw [hz2]; omega) (by omega) m os hw
 rw [hv] at this
 exact ⟨rfl, this, by rw [hw]; exact sort_keeps w blk f m _ os⟩

end Go.Proofs.YtdaokkgenfpmhaaGreat.BvhT

/- The walk of the sort of a node's shapes. -/
set_option linter.unusedVariables false
set_option linter.unusedSimpArgs false
namespace Go.Proofs.YtdaokkgenfpmhaaGreat.BvhU
open Go Go.RowKit Go.Sort Go.Lib FixM Base Num FixW Qb Qt Qa Qf VecW VecV VecU LightQ LightC MeshM Rec MeshA MeshD MeshP HitM BvhM BvhA BvhB BvhS BvhT
/-- what a tree that is being built has in the world: its maker at gM, itself at gT, its shapes' boxes and order -/
structure MkAt (w : World) (gM gT : Nat) (vb vn : Value) (v0 v1 v2 : Value) (st mo dp : Int) (blk cap : Nat) (bs : List Bx) (l : List Nat) (base : Nat) : Prop where
 m : w.heap[gM]? = some (.cells #[.pointer (some ⟨gT, 0, none⟩), vb, .int .i64 st, .int .i64 mo] 69)
 t : w.heap[gT]? = some (.cells #[.bool true, v0, v1, v2, vn, .slice (some ⟨blk, 0, none⟩) l.length cap, .int .i64 dp] 65)
 b : Recs 6 encB w vb bs
 o : Own .i64 9223372036854775808 3 base w (.slice (some ⟨blk, 0, none⟩) l.length cap) l
 nM : gM ≠ blk
 nT : gT ≠ blk
 nb : vb.ownBlock ≠ some blk
theorem cap_of {k : IntKind} {N E base blk cap : Nat} {w : World} {l : List Nat} (h : Own k N E base w (.slice (some ⟨blk, 0, none⟩) l.length cap) l) : l.length ≤ cap ∧ cap ≤ 9223372036854775807 := by
 rcases h.row.2 with ⟨e, _⟩ | ⟨g, cp, cur, e, _, _, h1, h2, _⟩
 ·
  simp at e
 ·
  simp only [Value.slice.injEq] at e
  obtain ⟨-, -, rfl⟩ := e
  exact ⟨h1, h2⟩
set_option maxRecDepth 100000 in
set_option maxHeartbeats 16000000 in
theorem sort_any (w : World) (gM gT : Nat) (vb vn v0 v1 v2 : Value) (st mo dp : Int) (blk cap : Nat) (bs : List Bx) (l : List Nat) (base : Nat) (h : MkAt w gM gT vb vn v0 v1 v2 st mo dp blk cap bs l base) (ok : ∀ b ∈ bs, HitM.Bx.ok b) (hl : ∀ i ∈ l, i < bs.length) (hb : bs.length ≤ 4611686018427387903) (hll : l.length ≤ 4611686018427387903)
  (bx : Bx) (obx : HitM.Bx.ok bx) (f t : Nat) (hft : f < t) (ht : t ≤ l.length) :
  Calls Tryz.prog 43 #[.pointer (some ⟨gM, 0, none⟩), .agg #[.int .i64 bx.lo.x, .int .i64 bx.lo.y, .int .i64 bx.lo.z, .int .i64 bx.hi.x, .int .i64 bx.hi.y, .int .i64 bx.hi.z, .int .i64 (f : Int), .int .i64 (t : Int), .int .i64 (-1), .int .i64 (-1)]] w
   (fun e w' => e = .returned (.tuple #[]) ∧ Own .i64 9223372036854775808 3 base w' (.slice (some ⟨blk, 0, none⟩) l.length cap) (putSeg l f (((l.drop f).take (t - f)).mergeSort (leN (axisF bx) bs))) ∧ Keeps (fun k => k = blk) w w') := by
 obtain ⟨⟨lX, lY, lZ⟩, ⟨hX, hY, hZ⟩⟩ := bx
 obtain ⟨ax, hax⟩ : ∃ z, z = axisF ⟨⟨lX, lY, lZ⟩, ⟨hX, hY, hZ⟩⟩ := ⟨_, rfl⟩
 rw [← hax]
 unfold axisF at hax
 dsimp only at hax
 have ix := obx.1.1; have iy := obx.1.2.1; have iz := obx.1.2.2; have jx := obx.2.1; have jy := obx.2.2.1; have jz := obx.2.2.2
 dsimp only at ix iy iz jx jy jz
 have CX := Lib.hid (sub_any hX lX jx.1 jx.2 ix.1 ix.2)
 have CY := Lib.hid (sub_any hY lY jy.1 jy.2 iy.1 iy.2)
 have CZ := Lib.hid (sub_any hZ lZ jz.1 jz.2 iz.1 iz.2)
 generalize subF hX lX = x at CX hax
 generalize subF hY lY = y at CY hax
 generalize subF hZ lZ = z at CZ hax
 have HAX := Lib.hid hax
 have HLK := Lib.hid hl
 have HOK := Lib.hid ok
 have HSZ := Lib.hid (And.intro hb hll)
 clear hax ix iy iz jx jy jz obx hl ok hb hll
 have hcap := cap_of h.o
 have hA := alloc2_0 w (.cells #[.pointer (some ⟨gM, 0, none⟩)] 66) (.cells #[.int .i64 lX, .int .i64 lY, .int .i64 lZ, .int .i64 hX, .int .i64 hY, .int .i64 hZ, .int .i64 (f : Int), .int .i64 (t : Int), .int .i64 (-1), .int .i64 (-1)] 84)
 have hB := alloc2_1 w (.cells #[.pointer (some ⟨gM, 0, none⟩)] 66) (.cells #[.int .i64 lX, .int .i64 lY, .int .i64 lZ, .int .i64 hX, .int .i64 hY, .int .i64 hZ, .int .i64 (f : Int), .int .i64 (t : Int), .int .i64 (-1), .int .i64 (-1)] 84)
 have hB0 := alloc2_below w (.cells #[.pointer (some ⟨gM, 0, none⟩)] 66) (.cells #[.int .i64 lX, .int .i64 lY, .int .i64 lZ, .int .i64 hX, .int .i64 hY, .int .i64 hZ, .int .i64 (f : Int), .int .i64 (t : Int), .int .i64 (-1), .int .i64 (-1)] 84)
 have HMT := Lib.hid (Base.lt_of_heap h.m)
 have HTT := Lib.hid (Base.lt_of_heap h.t)
 obtain ⟨W, hW⟩ : ∃ ww, ww = (w.alloc (.cells #[.pointer (some ⟨gM, 0, none⟩)] 66)).alloc (.cells #[.int .i64 lX, .int .i64 lY, .int .i64 lZ, .int .i64 hX, .int .i64 hY, .int .i64 hZ, .int .i64 (f : Int), .int .i64 (t : Int), .int .i64 (-1), .int .i64 (-1)] 84) := ⟨_, rfl⟩
 rw [← hW] at hA hB hB0
 have HP0 := Lib.hid hA
 have HN0 := Lib.hid hB
 have HB0 := Lib.hid hB0
 have HM0 := Lib.hid (vec_step h.m hB0)
 have HT0 := Lib.hid (vec_step h.t hB0)
 have HRB := Lib.hid h.b
 have HRO := Lib.hid h.o
 have HBK := Lib.hid (And.intro h.nM (And.intro h.nT h.nb))
 have HBL := Lib.hid (show blk < w.heap.size from (h.o.lt blk rfl).2)
 have HWW := Lib.hid hW
 clear hA hB hB0 hW h
 go_enter Tryz.func43, Tryz.ntmps43
 go_upto_region 1 with (fail)
 rw [← HWW.out]
 clear HWW
 have cHN0 := cell_row HN0.out 0 _ rfl
 have cHN1 := cell_row HN0.out 1 _ rfl
 have cHN2 := cell_row HN0.out 2 _ rfl
 have cHN3 := cell_row HN0.out 3 _ rfl
 have cHN4 := cell_row HN0.out 4 _ rfl
 have cHN5 := cell_row HN0.out 5 _ rfl
 have cHN6 := cell_row HN0.out 6 _ rfl
 have cHN7 := cell_row HN0.out 7 _ rfl
 go_wp2_with fail
 refine (CX.out _).mono ?_
 rintro e _ ⟨rfl, rfl⟩
 go_wp2_with fail
 refine (CY.out _).mono ?_
 rintro e _ ⟨rfl, rfl⟩
 go_wp2_with fail
 refine (CZ.out _).mono ?_
 rintro e _ ⟨rfl, rfl⟩
 clear CX CY CZ
 go_upto_region 6 with (fail)
 clear cHN0 cHN1 cHN2 cHN3 cHN4 cHN5 cHN6 cHN7
 have HKG := Lib.hid (show w.heap.size + 1 < W.heap.size from Base.lt_of_heap HN0.out)
 have hx := ext_alloc W (.cells #[.func (.func 59) #[] #[.pointer (some ⟨w.heap.size, 0, none⟩)]] 111)
 have hn := heap_alloc_new W (.cells #[.func (.func 59) #[] #[.pointer (some ⟨w.heap.size, 0, none⟩)]] 111)
 obtain ⟨y1, hW⟩ : ∃ ww, ww = W.alloc (.cells #[.func (.func 59) #[] #[.pointer (some ⟨w.heap.size, 0, none⟩)]] 111) := ⟨_, rfl⟩
 rw [← hW] at hx hn ⊢
 clear hW
 have HP1 := Lib.hid (vec_step HP0.out hx)
 have HN1 := Lib.hid (vec_step HN0.out hx)
 have HM1 := Lib.hid (vec_step HM0.out hx)
 have HT1 := Lib.hid (vec_step HT0.out hx)
 have HB1 := Lib.hid (HB0.out.trans (hx.mono HB0.out.size))
 clear HP0 HN0 HM0 HT0 HB0 hx  
 have HK1 := Lib.hid (hn)
 clear hn
 generalize W.heap.size = gHK at HK1 HKG ⊢
 by_cases c1 : y ≤ x ∧ z ≤ x
 ·
  have hx : ax = 0 := by rw [HAX.out, if_pos c1]
  have d1 : decide (y ≤ x) = true := decide_eq_true c1.1
  have d2 : decide (z ≤ x) = true := decide_eq_true c1.2
  clear c1 HAX
  have HKA := Lib.hid (show KeyAt y1 59 gHK w.heap.size gM vb bs from ⟨cell_row HK1.out 0 _ rfl, cell_row HP1.out 0 _ rfl, cell_row HM1.out 1 _ rfl, HRB.out.below HB1.out (Nat.le_refl _), Base.lt_of_heap HK1.out, Base.lt_of_heap HP1.out, Base.lt_of_heap HM1.out⟩)
  have HOO := Lib.hid (HRO.out.below HB1.out (Nat.le_refl _))
  have HGK := Lib.hid (show gHK ≠ blk by intro e; have := HKG.out; have := HBL.out; omega)
  have fHP0 := fun d os => cell_regrown (cell_row HP1.out 0 _ rfl) d os
  have fHM0 := fun d os => cell_regrown (cell_row HM1.out 0 _ rfl) d os
  have fHT5 := fun d os => cell_regrown (cell_row HT1.out 5 _ rfl) d os
  have fHN6 := fun d os => cell_regrown (cell_row HN1.out 6 _ rfl) d os
  have fHN7 := fun d os => cell_regrown (cell_row HN1.out 7 _ rfl) d os
  go_upto_region 9 with (fail)
  refine wp_region_below_tail 13 (by kernel_rfl) (by kernel_rfl) ?_
  simp only [List.take_succ_cons, List.take_zero, List.drop_succ_cons, List.drop_zero]
  repeat (go_big_quiet_step (fail))
  refine wpQuiet_nil ?_
  first | (rintro _ ⟨⟨dq, osq⟩, rfl⟩) | (rintro ⟨dq, osq⟩)
  have hb := below_regrown y1 dq osq
  obtain ⟨y2, hW⟩ : ∃ ww, ww = grow (redrawn y1 dq) osq := ⟨_, rfl⟩
  rw [← hW] at hb ⊢
  clear hW
  have HKB := Lib.hid (HKA.out.below hb)
  have HOB := Lib.hid (HOO.out.below hb (Nat.le_refl _))
  clear HKA HOO
  have HP2 := Lib.hid (vec_step HP1.out hb)
  have HN2 := Lib.hid (vec_step HN1.out hb)
  have HM2 := Lib.hid (vec_step HM1.out hb)
  have HT2 := Lib.hid (vec_step HT1.out hb)
  have HB2 := Lib.hid (HB1.out.trans (hb.mono HB1.out.size))
  have HK2 := Lib.hid (vec_step HK1.out hb)
  clear HP1 HN1 HM1 HT1 HB1 HK1 hb  fHP0 fHM0 fHT5 fHN6 fHN7
  go_wp2_with fail
  refine (sortFunc0_any base gHK w.heap.size gM blk cap vb bs l _ HKB.out HOK.out HOB.out HLK.out HSZ.out.1 HSZ.out.2 f t _ hft ht HGK.out (by have := HBL.out; omega) HBK.out.1 HBK.out.2.2).mono ?_
  rintro e y99 ⟨rfl, ho, hk⟩
  have HF := Lib.hid ho
  have HKK := Lib.hid ((Keeps.of_below HB2.out (fun k => k = blk) (fun k h1 h2 => by omega)).trans hk (fun k e => .inl e))
  clear ho hk
  go_wp2_with fail
  first | go_ret | go_end0
  exact ⟨rfl, by rw [hx]; exact HF.out, HKK.out⟩
 ·
  by_cases e1 : y ≤ x
  ·
   have d1 : decide (y ≤ x) = true := decide_eq_true e1
   have d2 : decide (z ≤ x) = false := decide_eq_false (fun h => c1 ⟨e1, h⟩)
   clear e1
   by_cases c2 : z ≤ y
   ·
    have hx : ax = 1 := by rw [HAX.out, if_neg c1, if_pos c2]
    have d3 : decide (z ≤ y) = true := decide_eq_true c2
    clear c1 c2 HAX
    have q0 := cell_row HK1.out 0 _ rfl
    have t0 := frozen_of_row _ _ 0 _ _ HK1.out
    go_upto_region 9 with (fail)
    have HP80 := Lib.hid ((heap_setCell_other y1 ⟨gHK, 0, none⟩ _ (.func (.func 60) #[] #[.pointer (some ⟨w.heap.size, 0, none⟩)]) (show w.heap.size ≠ gHK by have := HKG.out; have := HMT.out; have := HTT.out; omega)).trans HP1.out)
    have HN80 := Lib.hid ((heap_setCell_other y1 ⟨gHK, 0, none⟩ _ (.func (.func 60) #[] #[.pointer (some ⟨w.heap.size, 0, none⟩)]) (show w.heap.size + 1 ≠ gHK by have := HKG.out; have := HMT.out; have := HTT.out; omega)).trans HN1.out)
    have HM80 := Lib.hid ((heap_setCell_other y1 ⟨gHK, 0, none⟩ _ (.func (.func 60) #[] #[.pointer (some ⟨w.heap.size, 0, none⟩)]) (show gM ≠ gHK by have := HKG.out; have := HMT.out; have := HTT.out; omega)).trans HM1.out)
    have HT80 := Lib.hid ((heap_setCell_other y1 ⟨gHK, 0, none⟩ _ (.func (.func 60) #[] #[.pointer (some ⟨w.heap.size, 0, none⟩)]) (show gT ≠ gHK by have := HKG.out; have := HMT.out; have := HTT.out; omega)).trans HT1.out)
    have HK80 := Lib.hid (show (y1.setCell ⟨gHK, 0, none⟩ (.func (.func 60) #[] #[.pointer (some ⟨w.heap.size, 0, none⟩)])).heap[gHK]? = some (.cells #[(.func (.func 60) #[] #[.pointer (some ⟨w.heap.size, 0, none⟩)])] 111) from heap_setCell_same _ _ _ _ _ _ HK1.out)
    have HB80 := Lib.hid (setCell_below HB1.out (show w.heap.size ≤ gHK by have := HKG.out; omega) (.func (.func 60) #[] #[.pointer (some ⟨w.heap.size, 0, none⟩)]) (j := 0))
    obtain ⟨W8, hW8⟩ : ∃ ww, ww = y1.setCell ⟨gHK, 0, none⟩ (.func (.func 60) #[] #[.pointer (some ⟨w.heap.size, 0, none⟩)]) := ⟨_, rfl⟩
    rw [← hW8] at HP80 HN80 HM80 HT80 HK80 HB80 ⊢
    clear hW8 q0 t0 HP1 HN1 HM1 HT1 HB1 HK1
    have HKA := Lib.hid (show KeyAt W8 60 gHK w.heap.size gM vb bs from ⟨cell_row HK80.out 0 _ rfl, cell_row HP80.out 0 _ rfl, cell_row HM80.out 1 _ rfl, HRB.out.below HB80.out (Nat.le_refl _), Base.lt_of_heap HK80.out, Base.lt_of_heap HP80.out, Base.lt_of_heap HM80.out⟩)
    have HOO := Lib.hid (HRO.out.below HB80.out (Nat.le_refl _))
    have HGK := Lib.hid (show gHK ≠ blk by intro e; have := HKG.out; have := HBL.out; omega)
    have fHP0 := fun d os => cell_regrown (cell_row HP80.out 0 _ rfl) d os
    have fHM0 := fun d os => cell_regrown (cell_row HM80.out 0 _ rfl) d os
    have fHT5 := fun d os => cell_regrown (cell_row HT80.out 5 _ rfl) d os
    have fHN6 := fun d os => cell_regrown (cell_row HN80.out 6 _ rfl) d os
    have fHN7 := fun d os => cell_regrown (cell_row HN80.out 7 _ rfl) d os
    go_upto_region 9 with (fail)
    refine wp_region_below_tail 13 (by kernel_rfl) (by kernel_rfl) ?_
    simp only [List.take_succ_cons, List.take_zero, List.drop_succ_cons, List.drop_zero]
    repeat (go_big_quiet_step (fail))
    refine wpQuiet_nil ?_
    first | (rintro _ ⟨⟨dq, osq⟩, rfl⟩) | (rintro ⟨dq, osq⟩)
    have hb := below_regrown W8 dq osq
    obtain ⟨y3, hW⟩ : ∃ ww, ww = grow (redrawn W8 dq) osq := ⟨_, rfl⟩
    rw [← hW] at hb ⊢
    clear hW
    have HKB := Lib.hid (HKA.out.below hb)
    have HOB := Lib.hid (HOO.out.below hb (Nat.le_refl _))
    clear HKA HOO
    have HP81 := Lib.hid (vec_step HP80.out hb)
    have HN81 := Lib.hid (vec_step HN80.out hb)
    have HM81 := Lib.hid (vec_step HM80.out hb)
    have HT81 := Lib.hid (vec_step HT80.out hb)
    have HB81 := Lib.hid (HB80.out.trans (hb.mono HB80.out.size))
    have HK81 := Lib.hid (vec_step HK80.out hb)
    clear HP80 HN80 HM80 HT80 HB80 HK80 hb  fHP0 fHM0 fHT5 fHN6 fHN7
    go_wp2_with fail
    refine (sortFunc1_any base gHK w.heap.size gM blk cap vb bs l _ HKB.out HOK.out HOB.out HLK.out HSZ.out.1 HSZ.out.2 f t _ hft ht HGK.out (by have := HBL.out; omega) HBK.out.1 HBK.out.2.2).mono ?_
    rintro e y99 ⟨rfl, ho, hk⟩
    have HF := Lib.hid ho
    have HKK := Lib.hid ((Keeps.of_below HB81.out (fun k => k = blk) (fun k h1 h2 => by omega)).trans hk (fun k e => .inl e))
    clear ho hk
    go_wp2_with fail
    first | go_ret | go_end0
    exact ⟨rfl, by rw [hx]; exact HF.out, HKK.out⟩
   ·
    have hx : ax = 2 := by rw [HAX.out, if_neg c1, if_neg c2]
    have d3 : decide (z ≤ y) = false := decide_eq_false c2
    clear c1 c2 HAX
    have q0 := cell_row HK1.out 0 _ rfl
    have t0 := frozen_of_row _ _ 0 _ _ HK1.out
    go_upto_region 9 with (fail)
    have HP80 := Lib.hid ((heap_setCell_other y1 ⟨gHK, 0, none⟩ _ (.func (.func 61) #[] #[.pointer (some ⟨w.heap.size, 0, none⟩)]) (show w.heap.size ≠ gHK by have := HKG.out; have := HMT.out; have := HTT.out; omega)).trans HP1.out)
    have HN80 := Lib.hid ((heap_setCell_other y1 ⟨gHK, 0, none⟩ _ (.func (.func 61) #[] #[.pointer (some ⟨w.heap.size, 0, none⟩)]) (show w.heap.size + 1 ≠ gHK by have := HKG.out; have := HMT.out; have := HTT.out; omega)).trans HN1.out)
    have HM80 := Lib.hid ((heap_setCell_other y1 ⟨gHK, 0, none⟩ _ (.func (.func 61) #[] #[.pointer (some ⟨w.heap.size, 0, none⟩)]) (show gM ≠ gHK by have := HKG.out; have := HMT.out; have := HTT.out; omega)).trans HM1.out)
    have HT80 := Lib.hid ((heap_setCell_other y1 ⟨gHK, 0, none⟩ _ (.func (.func 61) #[] #[.pointer (some ⟨w.heap.size, 0, none⟩)]) (show gT ≠ gHK by have := HKG.out; have := HMT.out; have := HTT.out; omega)).trans HT1.out)
    have HK80 := Lib.hid (show (y1.setCell ⟨gHK, 0, none⟩ (.func (.func 61) #[] #[.pointer (some ⟨w.heap.size, 0, none⟩)])).heap[gHK]? = some (.cells #[(.func (.func 61) #[] #[.pointer (some ⟨w.heap.size, 0, none⟩)])] 111) from heap_setCell_same _ _ _ _ _ _ HK1.out)
    have HB80 := Lib.hid (setCell_below HB1.out (show w.heap.size ≤ gHK by have := HKG.out; omega) (.func (.func 61) #[] #[.pointer (some ⟨w.heap.size, 0, none⟩)]) (j := 0))
    obtain ⟨W8, hW8⟩ : ∃ ww, ww = y1.setCell ⟨gHK, 0, none⟩ (.func (.func 61) #[] #[.pointer (some ⟨w.heap.size, 0, none⟩)]) := ⟨_, rfl⟩
    rw [← hW8] at HP80 HN80 HM80 HT80 HK80 HB80 ⊢
    clear hW8 q0 t0 HP1 HN1 HM1 HT1 HB1 HK1
    have HKA := Lib.hid (show KeyAt W8 61 gHK w.heap.size gM vb bs from ⟨cell_row HK80.out 0 _ rfl, cell_row HP80.out 0 _ rfl, cell_row HM80.out 1 _ rfl, HRB.out.below HB80.out (Nat.le_refl _), Base.lt_of_heap HK80.out, Base.lt_of_heap HP80.out, Base.lt_of_heap HM80.out⟩)
    have HOO := Lib.hid (HRO.out.below HB80.out (Nat.le_refl _))
    have HGK := Lib.hid (show gHK ≠ blk by intro e; have := HKG.out; have := HBL.out; omega)
    have fHP0 := fun d os => cell_regrown (cell_row HP80.out 0 _ rfl) d os
    have fHM0 := fun d os => cell_regrown (cell_row HM80.out 0 _ rfl) d os
    have fHT5 := fun d os => cell_regrown (cell_row HT80.out 5 _ rfl) d os
    have fHN6 := fun d os => cell_regrown (cell_row HN80.out 6 _ rfl) d os
    have fHN7 := fun d os => cell_regrown (cell_row HN80.out 7 _ rfl) d os
    go_upto_region 9 with (fail)
    refine wp_region_below_tail 13 (by kernel_rfl) (by kernel_rfl) ?_
    simp only [List.take_succ_cons, List.take_zero, List.drop_succ_cons, List.drop_zero]
    repeat (go_big_quiet_step (fail))
    refine wpQuiet_nil ?_
    first | (rintro _ ⟨⟨dq, osq⟩, rfl⟩) | (rintro ⟨dq, osq⟩)
    have hb := below_regrown W8 dq osq
    obtain ⟨y4, hW⟩ : ∃ ww, ww = grow (redrawn W8 dq) osq := ⟨_, rfl⟩
    rw [← hW] at hb ⊢
    clear hW
    have HKB := Lib.hid (HKA.out.below hb)
    have HOB := Lib.hid (HOO.out.below hb (Nat.le_refl _))
    clear HKA HOO
    have HP81 := Lib.hid (vec_step HP80.out hb)
    have HN81 := Lib.hid (vec_step HN80.out hb)
    have HM81 := Lib.hid (vec_step HM80.out hb)
    have HT81 := Lib.hid (vec_step HT80.out hb)
    have HB81 := Lib.hid (HB80.out.trans (hb.mono HB80.out.size))
    have HK81 := Lib.hid (vec_step HK80.out hb)
    clear HP80 HN80 HM80 HT80 HB80 HK80 hb  fHP0 fHM0 fHT5 fHN6 fHN7
    go_wp2_with fail
    refine (sortFunc2_any base gHK w.heap.size gM blk cap vb bs l _ HKB.out HOK.out HOB.out HLK.out HSZ.out.1 HSZ.out.2 f t _ hft ht HGK.out (by have := HBL.out; omega) HBK.out.1 HBK.out.2.2).mono ?_
    rintro e y99 ⟨rfl, ho, hk⟩
    have HF := Lib.hid ho
    have HKK := Lib.hid ((Keeps.of_below HB81.out (fun k => k = blk) (fun k h1 h2 => by omega)).trans hk (fun k e => .inl e))
    clear ho hk
    go_wp2_with fail
    first | go_ret | go_end0
    exact ⟨rfl, by rw [hx]; exact HF.out, HKK.out⟩
  ·
   have d1 : decide (y ≤ x) = false := decide_eq_false e1
   clear e1
   by_cases c2 : z ≤ y
   ·
    have hx : ax = 1 := by rw [HAX.out, if_neg c1, if_pos c2]
    have d3 : decide (z ≤ y) = true := decide_eq_true c2
    clear c1 c2 HAX
    have q0 := cell_row HK1.out 0 _ rfl
    have t0 := frozen_of_row _ _ 0 _ _ HK1.out
    go_upto_region 9 with (fail)
    have HP80 := Lib.hid ((heap_setCell_other y1 ⟨gHK, 0, none⟩ _ (.func (.func 60) #[] #[.pointer (some ⟨w.heap.size, 0, none⟩)]) (show w.heap.size ≠ gHK by have := HKG.out; have := HMT.out; have := HTT.out; omega)).trans HP1.out)
    have HN80 := Lib.hid ((heap_setCell_other y1 ⟨gHK, 0, none⟩ _ (.func (.func 60) #[] #[.pointer (some ⟨w.heap.size, 0, none⟩)]) (show w.heap.size + 1 ≠ gHK by have := HKG.out; have := HMT.out; have := HTT.out; omega)).trans HN1.out)
    have HM80 := Lib.hid ((heap_setCell_other y1 ⟨gHK, 0, none⟩ _ (.func (.func 60) #[] #[.pointer (some ⟨w.heap.size, 0, none⟩)]) (show gM ≠ gHK by have := HKG.out; have := HMT.out; have := HTT.out; omega)).trans HM1.out)
    have HT80 := Lib.hid ((heap_setCell_other y1 ⟨gHK, 0, none⟩ _ (.func (.func 60) #[] #[.pointer (some ⟨w.heap.size, 0, none⟩)]) (show gT ≠ gHK by have := HKG.out; have := HMT.out; have := HTT.out; omega)).trans HT1.out)
    have HK80 := Lib.hid (show (y1.setCell ⟨gHK, 0, none⟩ (.func (.func 60) #[] #[.pointer (some ⟨w.heap.size, 0, none⟩)])).heap[gHK]? = some (.cells #[(.func (.func 60) #[] #[.pointer (some ⟨w.heap.size, 0, none⟩)])] 111) from heap_setCell_same _ _ _ _ _ _ HK1.out)
    have HB80 := Lib.hid (setCell_below HB1.out (show w.heap.size ≤ gHK by have := HKG.out; omega) (.func (.func 60) #[] #[.pointer (some ⟨w.heap.size, 0, none⟩)]) (j := 0))
    obtain ⟨W8, hW8⟩ : ∃ ww, ww = y1.setCell ⟨gHK, 0, none⟩ (.func (.func 60) #[] #[.pointer (some ⟨w.heap.size, 0, none⟩)]) := ⟨_, rfl⟩
    rw [← hW8] at HP80 HN80 HM80 HT80 HK80 HB80 ⊢
    clear hW8 q0 t0 HP1 HN1 HM1 HT1 HB1 HK1
    have HKA := Lib.hid (show KeyAt W8 60 gHK w.heap.size gM vb bs from ⟨cell_row HK80.out 0 _ rfl, cell_row HP80.out 0 _ rfl, cell_row HM80.out 1 _ rfl, HRB.out.below HB80.out (Nat.le_refl _), Base.lt_of_heap HK80.out, Base.lt_of_heap HP80.out, Base.lt_of_heap HM80.out⟩)
    have HOO := Lib.hid (HRO.out.below HB80.out (Nat.le_refl _))
    have HGK := Lib.hid (show gHK ≠ blk by intro e; have := HKG.out; have := HBL.out; omega)
    have fHP0 := fun d os => cell_regrown (cell_row HP80.out 0 _ rfl) d os
    have fHM0 := fun d os => cell_regrown (cell_row HM80.out 0 _ rfl) d os
    have fHT5 := fun d os => cell_regrown (cell_row HT80.out 5 _ rfl) d os
    have fHN6 := fun d os => cell_regrown (cell_row HN80.out 6 _ rfl) d os
    have fHN7 := fun d os => cell_regrown (cell_row HN80.out 7 _ rfl) d os
    go_upto_region 9 with (fail)
    refine wp_region_below_tail 13 (by kernel_rfl) (by kernel_rfl) ?_
    simp only [List.take_succ_cons, List.take_zero, List.drop_succ_cons, List.drop_zero]
    repeat (go_big_quiet_step (fail))
    refine wpQuiet_nil ?_
    first | (rintro _ ⟨⟨dq, osq⟩, rfl⟩) | (rintro ⟨dq, osq⟩)
    have hb := below_regrown W8 dq osq
    obtain ⟨y5, hW⟩ : ∃ ww, ww = grow (redrawn W8 dq) osq := ⟨_, rfl⟩
    rw [← hW] at hb ⊢
    clear hW
    have HKB := Lib.hid (HKA.out.below hb)
    have HOB := Lib.hid (HOO.out.below hb (Nat.le_refl _))
    clear HKA HOO
    have HP81 := Lib.hid (vec_step HP80.out hb)
    have HN81 := Lib.hid (vec_step HN80.out hb)
    have HM81 := Lib.hid (vec_step HM80.out hb)
    have HT81 := Lib.hid (vec_step HT80.out hb)
    have HB81 := Lib.hid (HB80.out.trans (hb.mono HB80.out.size))
    have HK81 := Lib.hid (vec_step HK80.out hb)
    clear HP80 HN80 HM80 HT80 HB80 HK80 hb  fHP0 fHM0 fHT5 fHN6 fHN7
    go_wp2_with fail
    refine (sortFunc1_any base gHK w.heap.size gM blk cap vb bs l _ HKB.out HOK.out HOB.out HLK.out HSZ.out.1 HSZ.out.2 f t _ hft ht HGK.out (by have := HBL.out; omega) HBK.out.1 HBK.out.2.2).mono ?_
    rintro e y99 ⟨rfl, ho, hk⟩
    have HF := Lib.hid ho
    have HKK := Lib.hid ((Keeps.of_below HB81.out (fun k => k = blk) (fun k h1 h2 => by omega)).trans hk (fun k e => .inl e))
    clear ho hk
    go_wp2_with fail
    first | go_ret | go_end0
    exact ⟨rfl, by rw [hx]; exact HF.out, HKK.out⟩
   ·
    have hx : ax = 2 := by rw [HAX.out, if_neg c1, if_neg c2]
    have d3 : decide (z ≤ y) = false := decide_eq_false c2
    clear c1 c2 HAX
    have q0 := cell_row HK1.out 0 _ rfl
    have t0 := frozen_of_row _ _ 0 _ _ HK1.out
    go_upto_region 9 with (fail)
    have HP80 := Lib.hid ((heap_setCell_other y1 ⟨gHK, 0, none⟩ _ (.func (.func 61) #[] #[.pointer (some ⟨w.heap.size, 0, none⟩)]) (show w.heap.size ≠ gHK by have := HKG.out; have := HMT.out; have := HTT.out; omega)).trans HP1.out)
    have HN80 := Lib.hid ((heap_setCell_other y1 ⟨gHK, 0, none⟩ _ (.func (.func 61) #[] #[.pointer (some ⟨w.heap.size, 0, none⟩)]) (show w.heap.size + 1 ≠ gHK by have := HKG.out; have := HMT.out; have := HTT.out; omega)).trans HN1.out)
    have HM80 := Lib.hid ((heap_setCell_other y1 ⟨gHK, 0, none⟩ _ (.func (.func 61) #[] #[.pointer (some ⟨w.heap.size, 0, none⟩)]) (show gM ≠ gHK by have := HKG.out; have := HMT.out; have := HTT.out; omega)).trans HM1.out)
    have HT80 := Lib.hid ((heap_setCell_other y1 ⟨gHK, 0, none⟩ _ (.func (.func 61) #[] #[.pointer (some ⟨w.heap.size, 0, none⟩)]) (show gT ≠ gHK by have := HKG.out; have := HMT.out; have := HTT.out; omega)).trans HT1.out)
    have HK80 := Lib.hid (show (y1.setCell ⟨gHK, 0, none⟩ (.func (.func 61) #[] #[.pointer (some ⟨w.heap.size, 0, none⟩)])).heap[gHK]? = some (.cells #[(.func (.func 61) #[] #[.pointer (some ⟨w.heap.size, 0, none⟩)])] 111) from heap_setCell_same _ _ _ _ _ _ HK1.out)
    have HB80 := Lib.hid (setCell_below HB1.out (show w.heap.size ≤ gHK by have := HKG.out; omega) (.func (.func 61) #[] #[.pointer (some ⟨w.heap.size, 0, none⟩)]) (j := 0))
    obtain ⟨W8, hW8⟩ : ∃ ww, ww = y1.setCell ⟨gHK, 0, none⟩ (.func (.func 61) #[] #[.pointer (some ⟨w.heap.size, 0, none⟩)]) := ⟨_, rfl⟩
    rw [← hW8] at HP80 HN80 HM80 HT80 HK80 HB80 ⊢
    clear hW8 q0 t0 HP1 HN1 HM1 HT1 HB1 HK1
    have HKA := Lib.hid (show KeyAt W8 61 gHK w.heap.size gM vb bs from ⟨cell_row HK80.out 0 _ rfl, cell_row HP80.out 0 _ rfl, cell_row HM80.out 1 _ rfl, HRB.out.below HB80.out (Nat.le_refl _), Base.lt_of_heap HK80.out, Base.lt_of_heap HP80.out, Base.lt_of_heap HM80.out⟩)
    have HOO := Lib.hid (HRO.out.below HB80.out (Nat.le_refl _))
    have HGK := Lib.hid (show gHK ≠ blk by intro e; have := HKG.out; have := HBL.out; omega)
    have fHP0 := fun d os => cell_regrown (cell_row HP80.out 0 _ rfl) d os
    have fHM0 := fun d os => cell_regrown (cell_row HM80.out 0 _ rfl) d os
    have fHT5 := fun d os => cell_regrown (cell_row HT80.out 5 _ rfl) d os
    have fHN6 := fun d os => cell_regrown (cell_row HN80.out 6 _ rfl) d os
    have fHN7 := fun d os => cell_regrown (cell_row HN80.out 7 _ rfl) d os
    go_upto_region 9 with (fail)
    refine wp_region_below_tail 13 (by kernel_rfl) (by kernel_rfl) ?_
    simp only [List.take_succ_cons, List.take_zero, List.drop_succ_cons, List.drop_zero]
    repeat (go_big_quiet_step (fail))
    refine wpQuiet_nil ?_
    first | (rintro _ ⟨⟨dq, osq⟩, rfl⟩) | (rintro ⟨dq, osq⟩)
    have hb := below_regrown W8 dq osq
    obtain ⟨y6, hW⟩ : ∃ ww, ww = grow (redrawn W8 dq) osq := ⟨_, rfl⟩
    rw [← hW] at hb ⊢
    clear hW
    have HKB := Lib.hid (HKA.out.below hb)
    have HOB := Lib.hid (HOO.out.below hb (Nat.le_refl _))
    clear HKA HOO
    have HP81 := Lib.hid (vec_step HP80.out hb)
    have HN81 := Lib.hid (vec_step HN80.out hb)
    have HM81 := Lib.hid (vec_step HM80.out hb)
    have HT81 := Lib.hid (vec_step HT80.out hb)
    have HB81 := Lib.hid (HB80.out.trans (hb.mono HB80.out.size))
    have HK81 := Lib.hid (vec_step HK80.out hb)
    clear HP80 HN80 HM80 HT80 HB80 HK80 hb  fHP0 fHM0 fHT5 fHN6 fHN7
    go_wp2_with fail
    refine (sortFunc2_any base gHK w.heap.size gM blk cap vb bs l _ HKB.out HOK.out HOB.out HLK.out HSZ.out.1 HSZ.out.2 f t _ hft ht HGK.out (by have := HBL.out; omega) HBK.out.1 HBK.out.2.2).mono ?_
    rintro e y99 ⟨rfl, ho, hk⟩
    have HF := Lib.hid ho
    have HKK := Lib.hid ((Keeps.of_below HB81.out (fun k => k = blk) (fun k h1 h2 => by omega)).trans hk (fun k e => .inl e))
    clear ho hk
    go_wp2_with fail
    first | go_ret | go_end0
    exact ⟨rfl, by rw [hx]; exact HF.out, HKK.out⟩

end Go.Proofs.YtdaokkgenfpmhaaGreat.BvhU

/- The walk of the box around some shapes. -/
set_option linter.unusedVariables false
set_option linter.unusedSimpArgs false
namespace Go.Proofs.YtdaokkgenfpmhaaGreat.BvhV
open Go Go.RowKit Go.Sort Go.Lib FixM Base Num FixW Qb Qt Qa Qf VecW VecV VecU LightQ LightC MeshM Rec MeshA MeshD MeshP HitM HitX BvhM BvhA BvhB BvhS BvhT BvhU
theorem alloc_box (w : World) : (Instr.alloc 72 true (.tuple #[])).run Tryz.prog w = .ok (.pointer (some ⟨w.heap.size, 0, none⟩)) (w.alloc (.cells #[.int .i64 0, .int .i64 0, .int .i64 0, .int .i64 0, .int .i64 0, .int .i64 0] 72)) := by kernel_rfl
theorem row_one6 (a b c d e f : Int) : (#[Value.int .i64 a, .int .i64 b, .int .i64 c, .int .i64 d, .int .i64 e, .int .i64 f] : Array Value).all (·.oneCell') = true := by
 rw [Array.all_eq_true']; intro v hv; simp at hv; rcases hv with rfl | rfl | rfl | rfl | rfl | rfl <;> rfl
/-- the loop's state: the box so far in block g -/
structure Ab (w W wr : World) (g : Nat) (b : Bx) : Prop where
 row : wr.heap[g]? = some (.cells #[.int .i64 b.lo.x, .int .i64 b.lo.y, .int .i64 b.lo.z, .int .i64 b.hi.x, .int .i64 b.hi.y, .int .i64 b.hi.z] 72)
 hb : Below w.heap.size w wr
 k : Keeps (fun j => j = g) W wr
theorem two_sets {w W0 y Z : World} {gO gN i j : Nat} {cs cs2 : Array Value} {T : TypeId} {o2 : Obj} {vi vj : Value} (hr : y.heap[gO]? = some (.cells cs T)) (hn : y.heap[gN]? = some o2) (hne : gO ≠ gN) (hb : Below w.heap.size w y) (hB : w.heap.size ≤ gO) (hk : Keeps (fun j => j = gO) W0 y) (h2 : (cs.setIfInBounds i vi).setIfInBounds j vj = cs2) (hZ : Z = ((y.setCell ⟨gO, i, none⟩ vi).setCell ⟨gO, j, none⟩ vj).drew) :
  Z.heap[gO]? = some (.cells cs2 T) ∧ Z.heap[gN]? = some o2 ∧ Below w.heap.size w Z ∧ Keeps (fun j => j = gO) W0 Z := by
 subst h2 hZ
 have ek := (hk.setCell gO i vi (.inl rfl)).setCell gO j vj (.inl rfl)
 have ey := ((Keeps.refl (fun j => j = gO) y).setCell gO i vi (.inl rfl)).setCell gO j vj (.inl rfl)
 have ez : Keeps (fun j => j = gO) y ((y.setCell ⟨gO, i, none⟩ vi).setCell ⟨gO, j, none⟩ vj).drew := ⟨ey.os, ey.tape, ey.output, ey.size, ey.block⟩
 refine ⟨heap_setCell_same _ _ _ _ _ _ (heap_setCell_same _ _ _ _ _ _ hr), (heap_setCell_other _ _ _ _ (Ne.symm hne)).trans ((heap_setCell_other _ _ _ _ (Ne.symm hne)).trans hn), hb.trans (ez.below _ hb.size (fun k h => by rw [h]; exact hB)), ⟨ek.os, ek.tape, ek.output, ek.size, ek.block⟩⟩
set_option maxRecDepth 100000 in
set_option maxHeartbeats 16000000 in
theorem around_any (w : World) (gM gT : Nat) (vb vn v0 v1 v2 : Value) (st mo dp : Int) (blk cap : Nat) (bs : List Bx) (l : List Nat) (base : Nat) (h : MkAt w gM gT vb vn v0 v1 v2 st mo dp blk cap bs l base) (hl : ∀ i ∈ l, i < bs.length) (f t : Nat) (hft : f < t) (ht : t ≤ l.length) (hll : l.length ≤ 4611686018427387903) :
  Calls Tryz.prog 42 #[.pointer (some ⟨gM, 0, none⟩), .int .i64 (f : Int), .int .i64 (t : Int)] w (VTo (boxV (boxS bs ((l.drop f).take (t - f)))) w) := by
 rw [← boxTo_all bs l f t hft ht]
 have H0 := Lib.hid (boxTo_zero bs l f)
 have HX := Lib.hid (fun k h => boxTo_next bs l f k h)
 generalize boxTo bs l f = bt at H0 HX ⊢
 have hcap := cap_of h.o
 have hA := heap_alloc_new w (.cells #[.int .i64 0, .int .i64 0, .int .i64 0, .int .i64 0, .int .i64 0, .int .i64 0] 72)
 have hB0 := ext_alloc w (.cells #[.int .i64 0, .int .i64 0, .int .i64 0, .int .i64 0, .int .i64 0, .int .i64 0] 72)
 obtain ⟨W, hW⟩ : ∃ ww, ww = w.alloc (.cells #[.int .i64 0, .int .i64 0, .int .i64 0, .int .i64 0, .int .i64 0, .int .i64 0] 72) := ⟨_, rfl⟩
 rw [← hW] at hA hB0
 have HZ0 := Lib.hid hA
 have HB0 := Lib.hid hB0
 have HM0 := Lib.hid (vec_step h.m hB0)
 have HT0 := Lib.hid (vec_step h.t hB0)
 have HRB := Lib.hid h.b
 have HRO := Lib.hid h.o
 have HLK := Lib.hid hl
 have HNE := Lib.hid (Base.lt_of_heap h.m)
 obtain ⟨ab, capb, hvb, -⟩ := h.b.open_
 have HWW := Lib.hid hW
 clear hA hB0 hW h hl
 subst hvb
 have hf : f < l.length := by omega
 have HF := Lib.hid (HLK.out l[f] (List.getElem_mem hf))
 obtain ⟨i0, hi0⟩ : ∃ i, i = l[f] := ⟨_, rfl⟩
 rw [← hi0] at HF
 have e0 : bs.getD (l.getD f 0) zeroB = bs[i0]'HF.out := by
  have e1 : l.getD f 0 = i0 := by rw [hi0]; simp [hf]
  rw [e1]
  simp [HF.out]
 have HE := Lib.hid (H0.out.trans e0)
 clear H0 e0
 go_enter Tryz.func42, Tryz.ntmps42
 go_upto_region 1 with (fail)
 rw [← HWW.out]
 clear HWW
 have KM := Lib.hid (fun W9 (hb : Below W.heap.size W W9) => vec_step HM0.out hb)
 have KT := Lib.hid (fun W9 (hb : Below W.heap.size W W9) => vec_step HT0.out hb)
 have KO : Hid (∀ W9, Below W.heap.size W W9 → ∀ d os, (grow (redrawn W9 d) os).cell? ⟨blk, f, none⟩ = some (.int .i64 (i0 : Int))) := by
  refine Lib.hid (fun W9 hb => ?_)
  obtain ⟨g, cp, e, -, -, -, hc, -, -⟩ := ((HRO.out.below HB0.out (Nat.le_refl _)).below hb (Nat.le_refl _)).at_ (by omega)
  simp only [Value.slice.injEq, Option.some.injEq, Addr.mk.injEq, and_true, true_and] at e
  obtain ⟨rfl, -⟩ := e
  have := hc f hf
  rw [← hi0] at this
  exact fun d os => cell_regrown this d os
 obtain ⟨bb, ob, eb, -, -⟩ := at6 HRB.out i0 HF.out
 subst eb
 obtain ⟨bx, hbx⟩ : ∃ z, z = bs[i0]'HF.out := ⟨_, rfl⟩
 rw [← hbx] at HE
 have KB : Hid (∀ W9, Below W.heap.size W W9 → (∀ d os, (grow (redrawn W9 d) os).cell? ⟨bb, ob + i0 * 6, none⟩ = some (.int .i64 bx.lo.x)) ∧ (∀ d os, (grow (redrawn W9 d) os).cell? ⟨bb, ob + i0 * 6 + 1, none⟩ = some (.int .i64 bx.lo.y)) ∧ (∀ d os, (grow (redrawn W9 d) os).cell? ⟨bb, ob + i0 * 6 + 2, none⟩ = some (.int .i64 bx.lo.z)) ∧ (∀ d os, (grow (redrawn W9 d) os).cell? ⟨bb, ob + i0 * 6 + 3, none⟩ = some (.int .i64 bx.hi.x)) ∧ (∀ d os, (grow (redrawn W9 d) os).cell? ⟨bb, ob + i0 * 6 + 4, none⟩ = some (.int .i64 bx.hi.y)) ∧ (∀ d os, (grow (redrawn W9 d) os).cell? ⟨bb, ob + i0 * 6 + 5, none⟩ = some (.int .i64 bx.hi.z))) := by
  refine Lib.hid (fun W9 hb => ?_)
  obtain ⟨b5, off5, e5, _, q0, q1, q2, q3, q4, q5⟩ := at6 ((HRB.out.below HB0.out (Nat.le_refl _)).below hb (Nat.le_refl _)) i0 HF.out
  simp only [Option.some.injEq, Addr.mk.injEq, and_true] at e5
  obtain ⟨rfl, rfl⟩ := e5
  rw [← hbx] at q0 q1 q2 q3 q4 q5
  exact ⟨fun d os => cell_regrown q0 d os, fun d os => cell_regrown q1 d os, fun d os => cell_regrown q2 d os, fun d os => cell_regrown q3 d os, fun d os => cell_regrown q4 d os, fun d os => cell_regrown q5 d os⟩
 have HI0 := Lib.hid hi0
 have DI := HF.out
 clear hbx hi0
 refine wp_region_free 106 [0, 1, 2, 3, 4, 5, 6, 7, 8, 9, 10, 11, 12, 13, 14, 15] [⟨16, 7, #[.int .i64 0, .int .i64 0, .int .i64 0, .int .i64 0, .int .i64 0, .int .i64 0], 72, 17, 26, #[.int .i64 bx.lo.x, .int .i64 bx.lo.y, .int .i64 bx.lo.z, .int .i64 bx.hi.x, .int .i64 bx.hi.y, .int .i64 bx.hi.z]⟩] (by kernel_rfl) rfl (by kernel_rfl) (by
  intro x hx
  simp only [List.mem_cons, List.not_mem_nil, or_false] at hx
  subst hx
  exact ⟨⟨_, rfl, ⟨⟨_, rfl, alloc_box⟩, rfl, rfl⟩⟩, _, rfl, ⟨⟨_, rfl, box_size⟩, rfl, rfl, rfl, row_one6 _ _ _ _ _ _⟩⟩) ?_
 refine Walk.step (A := ?A1) (o := ?o1) ?e1 ?w1 11 ?d1 (by simp) ?h1 ?n1
 case e1 => simp only [List.getElem?_toArray, List.getElem?_cons_succ, List.getElem?_cons_zero]; exact rfl
 case w1 => exact rfl
 case d1 => exact rfl
 case h1 =>
  intro W9 hW9
  go_big_quiet_op
  exact rfl
 refine Walk.step (A := ?A2) (o := ?o2) ?e2 ?w2 12 ?d2 (by simp) ?h2 ?n2
 case e2 => simp only [List.getElem?_toArray, List.getElem?_cons_succ, List.getElem?_cons_zero]; exact rfl
 case w2 => exact rfl
 case d2 => exact rfl
 case h2 =>
  intro W9 hW9
  go_big_quiet_op
  exact rfl
 refine Walk.step (A := ?A3) (o := ?o3) ?e3 ?w3 13 ?d3 (by simp) ?h3 ?n3
 case e3 => simp only [List.getElem?_toArray, List.getElem?_cons_succ, List.getElem?_cons_zero]; exact rfl
 case w3 => exact rfl
 case d3 => exact rfl
 case h3 =>
  intro W9 hW9
  go_big_quiet_op
  exact rfl
 refine Walk.step (A := ?A4) (o := ?o4) ?e4 ?w4 14 ?d4 (by simp) ?h4 ?n4
 case e4 => simp only [List.getElem?_toArray, List.getElem?_cons_succ, List.getElem?_cons_zero]; exact rfl
 case w4 => exact rfl
 case d4 => exact rfl
 case h4 =>
  intro W9 hW9
  have z0 := cell_all (KM.out W9 hW9) 1 _ rfl
  go_big_quiet_op
  exact rfl
 refine Walk.step (A := ?A5) (o := ?o5) ?e5 ?w5 15 ?d5 (by simp) ?h5 ?n5
 case e5 => simp only [List.getElem?_toArray, List.getElem?_cons_succ, List.getElem?_cons_zero]; exact rfl
 case w5 => exact rfl
 case d5 => exact rfl
 case h5 =>
  intro W9 hW9
  go_big_quiet_op
  exact rfl
 refine Walk.step (A := ?A6) (o := ?o6) ?e6 ?w6 16 ?d6 (by simp) ?h6 ?n6
 case e6 => simp only [List.getElem?_toArray, List.getElem?_cons_succ, List.getElem?_cons_zero]; exact rfl
 case w6 => exact rfl
 case d6 => exact rfl
 case h6 =>
  intro W9 hW9
  go_big_quiet_op
  exact rfl
 refine Walk.step (A := ?A7) (o := ?o7) ?e7 ?w7 17 ?d7 (by simp) ?h7 ?n7
 case e7 => simp only [List.getElem?_toArray, List.getElem?_cons_succ, List.getElem?_cons_zero]; exact rfl
 case w7 => exact rfl
 case d7 => exact rfl
 case h7 =>
  intro W9 hW9
  go_big_quiet_op
  exact rfl
 refine Walk.step (A := ?A8) (o := ?o8) ?e8 ?w8 18 ?d8 (by simp) ?h8 ?n8
 case e8 => simp only [List.getElem?_toArray, List.getElem?_cons_succ, List.getElem?_cons_zero]; exact rfl
 case w8 => exact rfl
 case d8 => exact rfl
 case h8 =>
  intro W9 hW9
  have z0 := cell_all (KM.out W9 hW9) 0 _ rfl
  go_big_quiet_op
  exact rfl
 refine Walk.step (A := ?A9) (o := ?o9) ?e9 ?w9 19 ?d9 (by simp) ?h9 ?n9
 case e9 => simp only [List.getElem?_toArray, List.getElem?_cons_succ, List.getElem?_cons_zero]; exact rfl
 case w9 => exact rfl
 case d9 => exact rfl
 case h9 =>
  intro W9 hW9
  go_big_quiet_op
  exact rfl
 refine Walk.step (A := ?A10) (o := ?o10) ?e10 ?w10 20 ?d10 (by simp) ?h10 ?n10
 case e10 => simp only [List.getElem?_toArray, List.getElem?_cons_succ, List.getElem?_cons_zero]; exact rfl
 case w10 => exact rfl
 case d10 => exact rfl
 case h10 =>
  intro W9 hW9
  go_big_quiet_op
  exact rfl
 refine Walk.step (A := ?A11) (o := ?o11) ?e11 ?w11 21 ?d11 (by simp) ?h11 ?n11
 case e11 => simp only [List.getElem?_toArray, List.getElem?_cons_succ, List.getElem?_cons_zero]; exact rfl
 case w11 => exact rfl
 case d11 => exact rfl
 case h11 =>
  intro W9 hW9
  have z0 := cell_all (KT.out W9 hW9) 5 _ rfl
  go_big_quiet_op
  exact rfl
 refine Walk.step (A := ?A12) (o := ?o12) ?e12 ?w12 22 ?d12 (by simp) ?h12 ?n12
 case e12 => simp only [List.getElem?_toArray, List.getElem?_cons_succ, List.getElem?_cons_zero]; exact rfl
 case w12 => exact rfl
 case d12 => exact rfl
 case h12 =>
  intro W9 hW9
  go_big_quiet_op
  exact rfl
 refine Walk.step (A := ?A13) (o := ?o13) ?e13 ?w13 23 ?d13 (by simp) ?h13 ?n13
 case e13 => simp only [List.getElem?_toArray, List.getElem?_cons_succ, List.getElem?_cons_zero]; exact rfl
 case w13 => exact rfl
 case d13 => exact rfl
 case h13 =>
  intro W9 hW9
  have z0 := hf
  go_big_quiet_op
  exact rfl
 refine Walk.step (A := ?A14) (o := ?o14) ?e14 ?w14 24 ?d14 (by simp) ?h14 ?n14
 case e14 => simp only [List.getElem?_toArray, List.getElem?_cons_succ, List.getElem?_cons_zero]; exact rfl
 case w14 => exact rfl
 case d14 => exact rfl
 case h14 =>
  intro W9 hW9
  have z0 := KO.out W9 hW9
  go_big_quiet_op
  exact rfl
 refine Walk.step (A := ?A15) (o := ?o15) ?e15 ?w15 25 ?d15 (by simp) ?h15 ?n15
 case e15 => simp only [List.getElem?_toArray, List.getElem?_cons_succ, List.getElem?_cons_zero]; exact rfl
 case w15 => exact rfl
 case d15 => exact rfl
 case h15 =>
  intro W9 hW9
  have z0 := DI
  go_big_quiet_op
  exact rfl
 refine Walk.step (A := ?A16) (o := ?o16) ?e16 ?w16 26 ?d16 (by simp) ?h16 ?n16
 case e16 => simp only [List.getElem?_toArray, List.getElem?_cons_succ, List.getElem?_cons_zero]; exact rfl
 case w16 => exact rfl
 case d16 => exact rfl
 case h16 =>
  intro W9 hW9
  obtain ⟨z0, z1, z2, z3, z4, z5⟩ := KB.out W9 hW9
  go_big_quiet_op
  exact rfl
 refine ⟨?_, ?_⟩
 ·
  intro x hx
  simp only [List.mem_cons, List.not_mem_nil, or_false] at hx
  subst hx
  rfl
 intro G hG hne y1 hb hk
 have k7 := hk _ (List.mem_cons_self ..)
 dsimp only at k7
 have kg : W.heap.size ≤ G 16 := by first | exact hG _ (List.mem_cons_self ..) | exact hG ⟨16, 7, #[.int .i64 0, .int .i64 0, .int .i64 0, .int .i64 0, .int .i64 0, .int .i64 0], 72, 17, 26, #[.int .i64 bx.lo.x, .int .i64 bx.lo.y, .int .i64 bx.lo.z, .int .i64 bx.hi.x, .int .i64 bx.hi.y, .int .i64 bx.hi.z]⟩ (List.mem_cons_self ..)
 have HGE := Lib.hid (show w.heap.size < G 16 from Nat.lt_of_lt_of_le (Base.lt_of_heap HZ0.out) kg)
 simp only [lay, Act.put, List.setIfInBounds_toArray, List.set_cons_succ, List.set_cons_zero, ptr]
 generalize G 16 = gO at k7 HGE ⊢
 clear hG hne hk kg KM KT KO KB
 have HZ1 := Lib.hid (vec_step HZ0.out hb)
 have HM1 := Lib.hid (vec_step HM0.out hb)
 have HT1 := Lib.hid (vec_step HT0.out hb)
 have HB1 := Lib.hid (HB0.out.trans (hb.mono HB0.out.size))
 clear HZ0 HM0 HT0 HB0 hb  
 have HO1 := Lib.hid (k7)
 clear k7
 have wf : IntKind.i64.wrap ((f : Int) + 1) = ((f + 1 : Nat) : Int) := by rw [MeshC.wrap_in (by omega) (by omega)]; omega
 go_upto_region 2 with (fail)
 by_cases hc : cap = f + 1
 ·
  have ht1 : t = f + 1 := by omega
  subst hc ht1
  have hz : f + 1 - (f + 1) = 0 := by omega
  rw [hz, HE.out]
  have cHM0 := cell_row HM1.out 0 _ rfl
  have cHT5 := cell_row HT1.out 5 _ rfl
  go_wp2_with fail
  clear cHM0 cHT5
  go_loopg [39] 0 (fun r n wr => n = .int .i64 0 ∧ wr = y1)
  case atStart => exact ⟨rfl, rfl⟩
  case round =>
   obtain ⟨rfl, rfl⟩ := hrel
   have cHO0 := cell_row HO1.out 0 _ rfl
   have cHO1 := cell_row HO1.out 1 _ rfl
   have cHO2 := cell_row HO1.out 2 _ rfl
   have cHO3 := cell_row HO1.out 3 _ rfl
   have cHO4 := cell_row HO1.out 4 _ rfl
   have cHO5 := cell_row HO1.out 5 _ rfl
   go_wp2_with (with_reducible refine store_box rfl (.tmp 6) (.tmp 105) rfl rfl w.heap.size bx.lo.x bx.lo.y bx.lo.z bx.hi.x bx.hi.y bx.hi.z rfl rfl _ HZ1.out rfl ?_)
   refine bodyPost_ret (results_cell_row rfl _ _ w.heap.size 72 _ _ _ rfl (setRow_heap _ _ _ _ _ _ HZ1.out) Tryz.underlying72 rfl box_size) rfl ?_
   exact ⟨by rw [show f + 1 - (f + 1) = 0 by omega, HE.out]; rfl, below_setRow HB1.out (Nat.le_refl _) _⟩
 ·
  have hne : ¬ cap = f + 1 := hc
  have cHM0 := cell_row HM1.out 0 _ rfl
  have cHT5 := cell_row HT1.out 5 _ rfl
  go_wp2_with fail
  clear cHM0 cHT5
  have HS0 := Lib.hid (show Ab w y1 y1 gO (bt 0) from ⟨by rw [HE.out]; exact HO1.out, HB1.out, Keeps.refl _ _⟩)
  go_loopg [39] (t - (f + 1)) (fun r n wr => ∃ k : Nat, k + r = t - (f + 1) ∧ n = .int .i64 (k : Int) ∧ Hid (Ab w y1 wr gO (bt k)))
  case atStart => exact ⟨0, by omega, rfl, HS0⟩
  case round =>
   obtain ⟨k, hkr, rfl, hin⟩ := hrel
   have HZ9 := Lib.hid (keep_cell hin.out.k HZ1.out (fun e => by have := HGE.out; have := HNE.out; omega))
   have HM9 := Lib.hid (keep_cell hin.out.k HM1.out (fun e => by have := HGE.out; have := HNE.out; omega))
   by_cases hk : k < t - (f + 1)
   ·
    have d1 : decide ((k : Int) < ((t - (f + 1) : Nat) : Int)) = true := decide_eq_true (by omega)
    have d2 : decide (k < t - (f + 1)) = true := decide_eq_true hk
    have hk2 : f + 1 + k < l.length := by omega
    have HMS := Lib.hid (show t - (f + 1) - (k + 1) < gk by omega)
    have HKR := Lib.hid (show k + 1 + (t - (f + 1) - (k + 1)) = t - (f + 1) by omega)
    have HBX := Lib.hid (HX.out k hk2)
    obtain ⟨i1, hi1⟩ : ∃ i, i = l[f + 1 + k] := ⟨_, rfl⟩
    have hib : i1 < bs.length := by rw [hi1]; exact HLK.out _ (List.getElem_mem hk2)
    rw [← hi1] at HBX
    obtain ⟨g, cp, e, -, -, -, hc, -, -⟩ := ((HRO.out.below hin.out.hb (Nat.le_refl _))).at_ (by omega)
    simp only [Value.slice.injEq, Option.some.injEq, Addr.mk.injEq, and_true, true_and] at e
    obtain ⟨rfl, -⟩ := e
    have z0 := hc (f + 1 + k) hk2
    rw [← hi1] at z0
    obtain ⟨bb2, ob2, eb2, -, u0, u1, u2, u3, u4, u5⟩ := at6 (HRB.out.below hin.out.hb (Nat.le_refl _)) i1 hib
    simp only [Option.some.injEq, Addr.mk.injEq, and_true] at eb2
    obtain ⟨rfl, rfl⟩ := eb2
    have c1 := cell_row HM9.out 1 _ rfl
    obtain ⟨bs1, hbs1⟩ : ∃ z, z = bs[i1] := ⟨_, rfl⟩
    rw [← hbs1] at u0 u1 u2 u3 u4 u5
    have hbg : bs.getD i1 zeroB = bs1 := by rw [hbs1]; simp [hib]
    rw [hbg] at HBX
    clear hbg
    have HI1 := Lib.hid (And.intro hi1 hbs1)
    have HIN := hin
    clear hi1 hbs1 hin hc
    go_upto_region 6 with (fail)
    have hx := ext_alloc wr (.cells #[.int .i64 bs1.lo.x, .int .i64 bs1.lo.y, .int .i64 bs1.lo.z, .int .i64 bs1.hi.x, .int .i64 bs1.hi.y, .int .i64 bs1.hi.z] 72)
    have hn := heap_alloc_new wr (.cells #[.int .i64 bs1.lo.x, .int .i64 bs1.lo.y, .int .i64 bs1.lo.z, .int .i64 bs1.hi.x, .int .i64 bs1.hi.y, .int .i64 bs1.hi.z] 72)
    obtain ⟨y, hW⟩ : ∃ ww, ww = wr.alloc (.cells #[.int .i64 bs1.lo.x, .int .i64 bs1.lo.y, .int .i64 bs1.lo.z, .int .i64 bs1.hi.x, .int .i64 bs1.hi.y, .int .i64 bs1.hi.z] 72) := ⟨_, rfl⟩
    rw [← hW] at hx hn ⊢
    clear hW
    have HR0 := Lib.hid (vec_step HIN.out.row hx)
    have HN0 := Lib.hid hn
    have HBY0 := Lib.hid (show Below w.heap.size w y from HIN.out.hb.trans (hx.mono HIN.out.hb.size))
    have HKY0 := Lib.hid (HIN.out.k.trans (Keeps.of_ext hx (fun _ => False)) (fun _ h => h.elim))
    have hne0 : gO ≠ wr.heap.size := Nat.ne_of_lt (Base.lt_of_heap HIN.out.row)
    clear hx hn
    generalize wr.heap.size = gN at HN0 hne0 ⊢
    clear HIN
    generalize bt k = q at HR0 HBX ⊢
    have ne2 : gN ≠ gO := Ne.symm hne0
    have hgo : w.heap.size ≤ gO := Nat.le_of_lt HGE.out
    go_upto_region 6 with (fail)
    go_cut [] from 50 to 67 (fun wc => Hid (wc.heap[gO]? = some (.cells #[.int .i64 (minI q.lo.x bs1.lo.x), .int .i64 q.lo.y, .int .i64 q.lo.z, .int .i64 (maxI q.hi.x bs1.hi.x), .int .i64 q.hi.y, .int .i64 q.hi.z] 72) ∧ wc.heap[gN]? = some (.cells #[.int .i64 bs1.lo.x, .int .i64 bs1.lo.y, .int .i64 bs1.lo.z, .int .i64 bs1.hi.x, .int .i64 bs1.hi.y, .int .i64 bs1.hi.z] 72) ∧ Below w.heap.size w wc ∧ Keeps (fun j => j = gO) y1 wc))
    case first =>
     have MN := min2_at (x := q.lo.x) (y := bs1.lo.x) rfl
     have MX := max2_at (x := q.hi.x) (y := bs1.hi.x) rfl
     have c2 := cell_row HR0.out 0 _ rfl
     have c3 := cell_row HR0.out 3 _ rfl
     have c4 := cell_row HN0.out 0 _ rfl
     have c5 := cell_row HN0.out 3 _ rfl
     have t2 := frozen_of_row _ _ 0 _ _ HR0.out
     have t3 := frozen_of_row _ _ 3 _ _ HR0.out
     go_region
     obtain ⟨z1, hz1⟩ : ∃ ww, ww = ((y.setCell ⟨gO, 0, none⟩ (.int .i64 (minI q.lo.x bs1.lo.x))).setCell ⟨gO, 3, none⟩ (.int .i64 (maxI q.hi.x bs1.hi.x))).drew := ⟨_, rfl⟩
     have HZS := Lib.hid (two_sets HR0.out HN0.out hne0 HBY0.out hgo HKY0.out (cs2 := #[.int .i64 (minI q.lo.x bs1.lo.x), .int .i64 q.lo.y, .int .i64 q.lo.z, .int .i64 (maxI q.hi.x bs1.hi.x), .int .i64 q.hi.y, .int .i64 q.hi.z]) rfl hz1)
     rw [← hz1]
     clear hz1 MN MX c2 c3 c4 c5 t2 t3
     go_wp2_with fail
     go_meet
     case rel => exact HZS
    case rest =>
     have HR1 := Lib.hid hcut.out.1
     have HN1 := Lib.hid hcut.out.2.1
     have HBY1 := Lib.hid hcut.out.2.2.1
     have HKY1 := Lib.hid hcut.out.2.2.2
     clear hcut HR0 HN0 HBY0 HKY0
     obtain ⟨z1, hz⟩ : ∃ ww, ww = wc := ⟨_, rfl⟩
     subst hz
     go_upto_region 7 with (fail)
     go_cut [] from 68 to 85 (fun wc => Hid (wc.heap[gO]? = some (.cells #[.int .i64 (minI q.lo.x bs1.lo.x), .int .i64 (minI q.lo.y bs1.lo.y), .int .i64 q.lo.z, .int .i64 (maxI q.hi.x bs1.hi.x), .int .i64 (maxI q.hi.y bs1.hi.y), .int .i64 q.hi.z] 72) ∧ wc.heap[gN]? = some (.cells #[.int .i64 bs1.lo.x, .int .i64 bs1.lo.y, .int .i64 bs1.lo.z, .int .i64 bs1.hi.x, .int .i64 bs1.hi.y, .int .i64 bs1.hi.z] 72) ∧ Below w.heap.size w wc ∧ Keeps (fun j => j = gO) y1 wc))
     case first =>
      have MN := min2_at (x := q.lo.y) (y := bs1.lo.y) rfl
      have MX := max2_at (x := q.hi.y) (y := bs1.hi.y) rfl
      have c2 := cell_row HR1.out 1 _ rfl
      have c3 := cell_row HR1.out 4 _ rfl
      have c4 := cell_row HN1.out 1 _ rfl
      have c5 := cell_row HN1.out 4 _ rfl
      have t2 := frozen_of_row _ _ 1 _ _ HR1.out
      have t3 := frozen_of_row _ _ 4 _ _ HR1.out
      go_region
      obtain ⟨z2, hz2⟩ : ∃ ww, ww = ((z1.setCell ⟨gO, 1, none⟩ (.int .i64 (minI q.lo.y bs1.lo.y))).setCell ⟨gO, 4, none⟩ (.int .i64 (maxI q.hi.y bs1.hi.y))).drew := ⟨_, rfl⟩
      have HZS := Lib.hid (two_sets HR1.out HN1.out hne0 HBY1.out hgo HKY1.out (cs2 := #[.int .i64 (minI q.lo.x bs1.lo.x), .int .i64 (minI q.lo.y bs1.lo.y), .int .i64 q.lo.z, .int .i64 (maxI q.hi.x bs1.hi.x), .int .i64 (maxI q.hi.y bs1.hi.y), .int .i64 q.hi.z]) rfl hz2)
      rw [← hz2]
      clear hz2 MN MX c2 c3 c4 c5 t2 t3
      go_wp2_with fail
      go_meet
      case rel => exact HZS
     case rest =>
      have HR2 := Lib.hid hcut.out.1
      have HN2 := Lib.hid hcut.out.2.1
      have HBY2 := Lib.hid hcut.out.2.2.1
      have HKY2 := Lib.hid hcut.out.2.2.2
      clear hcut HR1 HN1 HBY1 HKY1
      obtain ⟨z2, hz⟩ : ∃ ww, ww = wc := ⟨_, rfl⟩
      subst hz
      go_upto_region 8 with (fail)
      have MN := min2_at (x := q.lo.z) (y := bs1.lo.z) rfl
      have MX := max2_at (x := q.hi.z) (y := bs1.hi.z) rfl
      have c2 := cell_row HR2.out 2 _ rfl
      have c3 := cell_row HR2.out 5 _ rfl
      have c4 := cell_row HN2.out 2 _ rfl
      have c5 := cell_row HN2.out 5 _ rfl
      have t2 := frozen_of_row _ _ 2 _ _ HR2.out
      have t3 := frozen_of_row _ _ 5 _ _ HR2.out
      go_region
      obtain ⟨z3, hz3⟩ : ∃ ww, ww = ((z2.setCell ⟨gO, 2, none⟩ (.int .i64 (minI q.lo.z bs1.lo.z))).setCell ⟨gO, 5, none⟩ (.int .i64 (maxI q.hi.z bs1.hi.z))).drew := ⟨_, rfl⟩
      have HZS := Lib.hid (two_sets HR2.out HN2.out hne0 HBY2.out hgo HKY2.out (cs2 := #[.int .i64 (minI q.lo.x bs1.lo.x), .int .i64 (minI q.lo.y bs1.lo.y), .int .i64 (minI q.lo.z bs1.lo.z), .int .i64 (maxI q.hi.x bs1.hi.x), .int .i64 (maxI q.hi.y bs1.hi.y), .int .i64 (maxI q.hi.z bs1.hi.z)]) rfl hz3)
      rw [← hz3]
      clear hz3 MN MX c2 c3 c4 c5 t2 t3
      have hcut := HZS
      clear HZS
      have HR3 := Lib.hid hcut.out.1
      have HN3 := Lib.hid hcut.out.2.1
      have HBY3 := Lib.hid hcut.out.2.2.1
      have HKY3 := Lib.hid hcut.out.2.2.2
      clear hcut HR2 HN2 HBY2 HKY2
      have HS9 := Lib.hid (show Ab w y1 z3 gO (bt (k + 1)) from ⟨by rw [HBX.out]; exact HR3.out, HBY3.out, HKY3.out⟩)
      clear HR3 HN3 HBY3 HKY3
      clear d1 d2 u0 u1 u2 u3 u4 u5 z0 c1
      go_wp2_with fail
      go_roundg (t - (f + 1) - (k + 1))
      case measure => exact HMS.out
      case rel => exact ⟨k + 1, HKR.out, rfl, HS9⟩
   ·
    have hkk : k = t - (f + 1) := by omega
    subst hkk
    have d1 : decide (((t - (f + 1) : Nat) : Int) < ((t - (f + 1) : Nat) : Int)) = false := decide_eq_false (by omega)
    have d2 : decide (t - (f + 1) < t - (f + 1)) = false := decide_eq_false (by omega)
    have HB9 := Lib.hid hin.out.hb
    have HQ := Lib.hid hin.out.row
    clear hin HS0 HX
    obtain ⟨q, hq⟩ : ∃ z, z = bt (t - (f + 1)) := ⟨_, rfl⟩
    rw [← hq] at HQ
    have HQE := Lib.hid hq
    clear hq
    have c0 := cell_row HQ.out 0 _ rfl
    have c1 := cell_row HQ.out 1 _ rfl
    have c2 := cell_row HQ.out 2 _ rfl
    have c3 := cell_row HQ.out 3 _ rfl
    have c4 := cell_row HQ.out 4 _ rfl
    have c5 := cell_row HQ.out 5 _ rfl
    go_wp2_with (with_reducible refine store_box rfl (.tmp 6) (.tmp 105) rfl rfl w.heap.size q.lo.x q.lo.y q.lo.z q.hi.x q.hi.y q.hi.z rfl rfl _ HZ9.out rfl ?_)
    refine bodyPost_ret (results_cell_row rfl _ _ w.heap.size 72 _ _ _ rfl (setRow_heap _ _ _ _ _ _ HZ9.out) Tryz.underlying72 rfl box_size) rfl ?_
    exact ⟨by rw [← HQE.out]; rfl, below_setRow HB9.out (Nat.le_refl _) _⟩

end Go.Proofs.YtdaokkgenfpmhaaGreat.BvhV

/- A region that draws its order, with calls that write among its operations, each waiting for the one before it ('put(put(put(out, a), b), c)'): the others are quiet (each yields one value whatever has been written by then). No program is named here. -/
set_option linter.unusedVariables false
set_option linter.unusedSimpArgs false
namespace Go.Proofs.YtdaokkgenfpmhaaGreat.Qw
open Go.RowKit Go.Sort Qb Qt

section
variable {P : Program} {ops : Array Oper} {md : Region.Mode} {n : Nat} {σ : Type} {D : σ → World → Prop}

/-- what a writing operation leaves: a value and a state that go together -/
def wrUpon (P : Program) (D : σ → World → Prop) (Post : Value → σ → Prop) : Result Next → Prop
 | .ok (.value u) w' => ∃ s', Post u s' ∧ D s' w'
 | .ok (.enter f args) w' => Calls P f args w' (fun e w'' => ∃ v s', e = .returned v ∧ Post v s' ∧ D s' w'')
 | _ => False
def Wr (P : Program) (D : σ → World → Prop) (s : σ) (o : Oper) (a : Act) (Post : Value → σ → Prop) : Prop := ∀ w, D s w → wrUpon P D Post ((execOp a.eval o).run P w)
theorem Wr.of_same {s : σ} {o : Oper} {a a' : Act} {Post : Value → σ → Prop} (h : Wr P D s o a Post) (he : execOp a'.eval o = execOp a.eval o) : Wr P D s o a' Post := by
 intro w hw; rw [he]; exact h w hw
/-- one value in every world of every state, and the state stays -/
def Firm (P : Program) (D : σ → World → Prop) (o : Oper) (v : Value) (a : Act) : Prop := ∀ s w, D s w → o.quietAt P a (D s) w v
theorem Firm.of_same {o : Oper} {v : Value} {a a' : Act} (h : Firm P D o v a) (he : execOp a'.eval o = execOp a.eval o) : Firm P D o v a' := by
 intro s w hw
 have := h s w hw
 unfold Oper.quietAt at *
 rw [he]; exact this

/-- operation k, then K -/
def St (P : Program) (ops : Array Oper) (D : σ → World → Prop) (k : Nat) (K : Act → σ → Prop) (a : Act) (s : σ) : Prop :=
 ∃ o, ops[k]? = some o ∧ Region.wanted o (yielded ops a.tmps) = true ∧ ((∃ Post, Wr P D s o a Post ∧ ∀ v s', Post v s' → K (a.put o.dst v) s') ∨ ∃ v, Firm P D o v a ∧ K (a.put o.dst v) s)
theorem St.mono {k : Nat} {K K' : Act → σ → Prop} (h : ∀ a s, K a s → K' a s) {a : Act} {s : σ} (hs : St P ops D k K a s) : St P ops D k K' a s := by
 obtain ⟨o, ho, hw, h1⟩ := hs
 rcases h1 with ⟨Post, h2, h3⟩ | ⟨v, h3, h4⟩
 ·
  exact ⟨o, ho, hw, .inl ⟨Post, h2, fun v s' hp => h _ _ (h3 v s' hp)⟩⟩
 ·
  exact ⟨o, ho, hw, .inr ⟨v, h3, h _ _ h4⟩⟩
/-- whatever order the first n come up in -/
def Hd (P : Program) (ops : Array Oper) (md : Region.Mode) (D : σ → World → Prop) (n : Nat) (L : Array Bool → Act → σ → Prop) : Nat → Array Bool → Act → σ → Prop
 | 0, t, a, s => L t a s
 | f + 1, t, a, s => Region.ready md ops t ≠ [] ∧ ∀ k ∈ Region.ready md ops t, k < n ∧ St P ops D k (Hd P ops md D n L f (t.setIfInBounds k true)) a s

theorem St.op {k : Nat} {K : Act → σ → Prop} {K' : Act → World → Prop} {R : Exit → Act → World → Prop} {a : Act} {s : σ} {w : World} (hD : D s w) (hst : St P ops D k K a s)
  (h : ∀ a' s' w', D s' w' → K a' s' → K' a' w') : wpOp P ops R k K' a w := by
 obtain ⟨o, ho, hwt, h1⟩ := hst
 rcases h1 with ⟨Post, h2, h3⟩ | ⟨v, h3, h4⟩
 ·
  unfold wpOp
  simp only [ho, hwt, if_true]
  refine .inl ?_
  unfold Oper.wp
  have hr := h2 w hD
  generalize (execOp a.eval o).run P w = r at hr
  cases r with
  | halt x w' => simp only [wrUpon] at hr
  | ok nx w' =>
   cases nx <;> simp only [wrUpon] at hr
   case value u =>
    obtain ⟨s', hp, hd⟩ := hr
    exact h _ s' _ hd (h3 u s' hp)
   case enter f args =>
    refine hr.mono ?_
    rintro e w'' ⟨v, s', rfl, hp, hd⟩
    exact h _ s' _ hd (h3 v s' hp)
 ·
  refine wpOp_of_qOp (C := D s) (K := fun a' => a' = a.put o.dst v) hD (fun a' w' hw' ha' => ?_) ?_
  ·
   subst ha'
   exact h _ s _ hw' h4
  ·
   unfold qOp
   simp only [ho, hwt, if_true]
   exact ⟨v, fun w1 hw1 => h3 s w1 hw1, rfl⟩
theorem Hd.any {g : Nat} {L : Array Bool → Act → σ → Prop} {R : Exit → Act → World → Prop} (hL : ∀ t a s w, D s w → L t a s → wpAny P md ops R g t a w) :
  ∀ (f : Nat) (t : Array Bool) (a : Act) (s : σ) (w : World), D s w → Hd P ops md D n L f t a s → wpAny P md ops R (f + g) t a w := by
 intro f
 induction f with
 | zero => intro t a s w hw h; rw [Nat.zero_add]; exact hL t a s w hw h
 | succ f ih =>
  intro t a s w hw h
  rw [show f + 1 + g = (f + g) + 1 by omega]
  exact ⟨fun h0 => absurd h0 h.1, fun k hk => (h.2 k hk).2.op hw fun a' s' w' hw' ha' => ih _ a' s' w' hw' ha'⟩

/-- a quiet operation that may come up, may be taken first -/
theorem Hd.first {L : Array Bool → Act → σ → Prop} {i : Nat} {oi : Oper} {v : Value} (hi : ops[i]? = some oi) (hsel : ∀ (j : Nat) (o : Oper) cs b, ops[j]? = some o → o.op ≠ .select cs b)
  (hs : Region.sinkB md ops n = true) (hc : Region.chainB md ops n = true) (hn : n < ops.size) (hin : i < n) (hL : ∀ t a s, L t a s → ∀ j ∈ Region.ready md ops t, n ≤ j) :
  ∀ (f : Nat) (t : Array Bool) (a : Act) (s : σ), HeadInv md ops n t →
   (∀ j oj, ops[j]? = some oj → j ≠ i → t.getD j true = false → (∀ e ∈ oj.after, Region.binds md e = true → e.on ≠ i) → oi.apart ops oj = true) →
   i ∈ Region.ready md ops t → Region.wanted oi (yielded ops a.tmps) = true → Firm P D oi v a → Hd P ops md D n L f (t.setIfInBounds i true) (a.put oi.dst v) s → Hd P ops md D n L (f + 1) t a s := by
 have inHead : ∀ t : Array Bool, HeadInv md ops n t → i ∈ Region.ready md ops t → ∀ k ∈ Region.ready md ops t, k < n := by
  intro t inv hr k hk
  rcases Nat.lt_or_ge k n with h | h
  ·
   exact h
  ·
   exact absurd hk (tail_waits hs hc hn inv (n - i) i rfl hin (mem_ready.1 hr).1 k h)
 have notEmpty : ∀ t : Array Bool, i ∈ Region.ready md ops t → Region.ready md ops t ≠ [] := by
  intro t hr h0
  rw [h0] at hr
  cases hr
 intro f
 induction f with
 | zero =>
  intro t a s inv _ hr hw hy h
  refine ⟨notEmpty t hr, fun k hk => ⟨inHead t inv hr k hk, ?_⟩⟩
  by_cases hki : k = i
  ·
   subst hki; exact ⟨oi, hi, hw, .inr ⟨v, hy, h⟩⟩
  ·
   have h1 := hL _ _ _ h k (ready_mono hk hki)
   have h2 := inHead t inv hr k hk
   omega
 | succ f ih =>
  intro t a s inv hap hr hw hy h
  refine ⟨notEmpty t hr, fun k hk => ⟨inHead t inv hr k hk, ?_⟩⟩
  by_cases hki : k = i
  ·
   subst hki; exact ⟨oi, hi, hw, .inr ⟨v, hy, h⟩⟩
  ·
   obtain ⟨hkun, ok, hok, hkall⟩ := mem_ready.1 hk
   have hiun := (mem_ready.1 hr).1
   have hne : ∀ e ∈ ok.after, Region.binds md e = true → e.on ≠ i := by
    intro e he hb heq
    have h3 := hkall e he hb
    rw [heq, getD_both hiun] at h3
    cases h3
   have hapk := hap k ok hok hki hkun hne
   obtain ⟨p1, p2, p3⟩ := Oper.apart_spec hapk
   have hseli := fun cs b => hsel i oi cs b hi
   have hselk := fun cs b => hsel k ok cs b hok
   have onward : ∀ (a' : Act) (s' : σ), Region.wanted oi (yielded ops a'.tmps) = true → Firm P D oi v a' → Hd P ops md D n L f ((t.setIfInBounds i true).setIfInBounds k true) (a'.put oi.dst v) s' →
     Hd P ops md D n L (f + 1) (t.setIfInBounds k true) a' s' := by
    intro a' s' hw' hy' h'
    refine ih (t.setIfInBounds k true) a' s' (inv.set hk (inHead t inv hr k hk)) ?_ (ready_mono hr (Ne.symm hki)) hw' hy' ?_
    ·
     intro j oj hj hji hjun hjn
     refine hap j oj hj hji ?_ hjn
     by_cases hkj : k = j
     ·
      subst hkj; exact hkun
     ·
      rw [getD_set_ne true hkj] at hjun; exact hjun
    ·
     rw [Array.setIfInBounds_comm _ _ hki]; exact h'
   obtain ⟨o', ho', hw', h4⟩ := (h.2 k (ready_mono hk hki)).2
   obtain rfl : o' = ok := Option.some.inj (ho'.symm.trans hok)
   have hwk : Region.wanted o' (yielded ops a.tmps) = true := by rw [← wanted_put o' a oi.dst v p1]; exact hw'
   have after : ∀ (u : Value) (s' : σ), Hd P ops md D n L f ((t.setIfInBounds i true).setIfInBounds k true) ((a.put oi.dst v).put o'.dst u) s' → Hd P ops md D n L (f + 1) (t.setIfInBounds k true) (a.put o'.dst u) s' := by
    intro u s' h'
    refine onward _ _ ?_ (hy.of_same (execOp_put oi hseli a o'.dst u p3)) ?_
    ·
     rw [wanted_put oi a o'.dst u p3]; exact hw
    ·
     rw [← Act.put_comm a v u p2]; exact h'
   rcases h4 with ⟨Post, h5, h6⟩ | ⟨u, h6, h7⟩
   ·
    exact ⟨o', hok, hwk, .inl ⟨Post, h5.of_same (execOp_put o' hselk a oi.dst v p1).symm, fun u s' hp => after u s' (h6 u s' hp)⟩⟩
   ·
    exact ⟨o', hok, hwk, .inr ⟨u, h6.of_same (execOp_put o' hselk a oi.dst v p1).symm, after u s h7⟩⟩

/-- the writing operations, one behind another -/
def Chain (P : Program) (ops : Array Oper) (D : σ → World → Prop) (K : Act → σ → Prop) : List Nat → Act → σ → Prop
 | [], a, s => K a s
 | k :: ks, a, s => ∃ o, ops[k]? = some o ∧ Region.wanted o (yielded ops a.tmps) = true ∧ ∃ Post, Wr P D s o a Post ∧ ∀ v s', Post v s' → Chain P ops D K ks (a.put o.dst v) s'
def lineB (md : Region.Mode) (ops : Array Oper) (g n : Nat) : List Nat → Array Bool → Bool
 | [], t => Region.seqB md ops g n t
 | k :: ks, t => decide (k < n) && decide (Region.ready md ops t = [k]) && lineB md ops g n ks (t.setIfInBounds k true)
theorem Hd.line {g : Nat} {K : Act → σ → Prop} : ∀ (ks : List Nat) (t : Array Bool) (a : Act) (s : σ), lineB md ops g n ks t = true → Chain P ops D K ks a s →
  Hd P ops md D n (fun t' a' s' => Region.seqB md ops g n t' = true ∧ K a' s') ks.length t a s := by
 intro ks
 induction ks with
 | nil => intro t a s hB h; exact ⟨hB, h⟩
 | cons k ks ih =>
  intro t a s hB h
  simp only [lineB, Bool.and_eq_true, decide_eq_true_eq] at hB
  obtain ⟨⟨hkn, hrd⟩, hB'⟩ := hB
  obtain ⟨o, ho, hw, Post, h1, h2⟩ := h
  refine ⟨by rw [hrd]; simp, fun j hj => ?_⟩
  rw [hrd] at hj
  obtain rfl : j = k := by simpa using hj
  exact ⟨hkn, o, ho, hw, .inl ⟨Post, h1, fun v s' hp => ih _ _ _ hB' (h2 v s' hp)⟩⟩

/-- the quiet operations, in the order of the list -/
def Walk (P : Program) (ops : Array Oper) (D : σ → World → Prop) (K : Act → Prop) : List Nat → Act → Prop
 | [], a => K a
 | k :: ks, a => ∃ o, ops[k]? = some o ∧ Region.wanted o (yielded ops a.tmps) = true ∧ ∃ v, Firm P D o v a ∧ Walk P ops D K ks (a.put o.dst v)
def headB (md : Region.Mode) (ops : Array Oper) (g n : Nat) (cs : List Nat) : List Nat → Array Bool → Bool
 | [], t => lineB md ops g n cs t
 | k :: ks, t => decide (k < n) && (Region.ready md ops t).contains k && Region.free md ops t k && headB md ops g n cs ks (t.setIfInBounds k true)
theorem Hd.walk {g : Nat} {K : Act → σ → Prop} (cs : List Nat)
  (hsel : Region.noSelect ops = true) (hs : Region.sinkB md ops n = true) (hc : Region.chainB md ops n = true) (hn : n < ops.size) :
  ∀ (ks : List Nat) (t : Array Bool) (a : Act) (s : σ), HeadInv md ops n t → headB md ops g n cs ks t = true → Walk P ops D (fun a' => Chain P ops D K cs a' s) ks a →
   Hd P ops md D n (fun t' a' s' => Region.seqB md ops g n t' = true ∧ K a' s') (ks.length + cs.length) t a s := by
 intro ks
 induction ks with
 | nil =>
  intro t a s _ hB h
  rw [List.length_nil, Nat.zero_add]
  exact Hd.line cs t a s hB h
 | cons k ks ih =>
  intro t a s inv hB h
  simp only [headB, Bool.and_eq_true, decide_eq_true_eq] at hB
  obtain ⟨⟨⟨hkn, hr⟩, hf⟩, hB'⟩ := hB
  have hr' : k ∈ Region.ready md ops t := by simpa using hr
  obtain ⟨o, ho, hw, v, hy, hK'⟩ := h
  rw [List.length_cons, show ks.length + 1 + cs.length = (ks.length + cs.length) + 1 by omega]
  exact Hd.first ho (Region.noSelect_spec hsel) hs hc hn hkn (fun t' a' s' hL => seqB_ready hL.1) _ t a s inv (Region.free_spec ho hf) hr' hw hy (ih _ _ _ (inv.set hr' hkn) hB' hK')

/-- THE LAW: quiet operations ks and the writing ones cs among the first n, then the rest in its own order. -/
theorem wp_region_writes {id : Nat} {Q : Exit → Act → World → Prop} {a : Act} {w : World} {l : List Oper} (n : Nat) (ks cs : List Nat) (D : σ → World → Prop) (s0 : σ) (hm : P.follows .mixedOrders = true)
  (hB : (Region.noSelect l.toArray && decide (n < l.toArray.size) && decide (ks.length + cs.length = n) && Region.sinkB .any l.toArray n && Region.chainB .any l.toArray n && headB .any l.toArray (l.toArray.size - n) n cs ks (Array.replicate l.toArray.size false)) = true)
  (h0 : D s0 { w with drawn := w.drawn + 1 })
  (h : Walk P l.toArray D (fun a' => Chain P l.toArray D (fun a s => ∀ w', D s w' → wpList P l.toArray Q (l.drop n) a w') cs a' s0) ks a) : (Code.region id l.toArray true).wp P Q a w := by
 simp only [Bool.and_eq_true, decide_eq_true_eq] at hB
 obtain ⟨⟨⟨⟨⟨hsel, hn⟩, hlen⟩, hs⟩, hc⟩, hlex⟩ := hB
 have hdl : (l.drop n).length = l.toArray.size - n := by simp
 have inv0 : HeadInv .any l.toArray n (Array.replicate l.toArray.size false) :=
  ⟨by simp, fun j oj _ hl => (by rw [getD_replicate_false] at hl; cases hl), fun t _ ht => getD_in (by simpa using ht) (getD_replicate_false _ _)⟩
 have H := Hd.walk (md := .any) (g := l.toArray.size - n) cs hsel hs hc hn ks _ a s0 inv0 hlex h
 refine wp_region_any hm ?_
 have key := Hd.any (R := Q) (g := l.toArray.size - n) (L := fun t' a' s' => Region.seqB .any l.toArray (l.toArray.size - n) n t' = true ∧ ∀ w', D s' w' → wpList P l.toArray Q (l.drop n) a' w') (fun t' a' s' w' hw' hL => by
  have := wpAny_of_seq (md := .any) (Q' := Q) (l.drop n) n t' a' w' (fun j => by simp [List.getElem?_drop]) (by rw [hdl]; exact hL.1) (hL.2 w' hw')
  rwa [hdl] at this) _ _ _ s0 { w with drawn := w.drawn + 1 } h0 H
 rw [hlen, show n + (l.toArray.size - n) = l.toArray.size by omega] at key
 exact key
theorem upon_mono {C C' : World → Prop} (h : ∀ w, C w → C' w) {w : World} {v : Value} {r : Result Next} (hr : Oper.quietUpon P C w v r) : Oper.quietUpon P C' w v r := by
 cases r with
 | halt x w' => simp only [Oper.quietUpon] at hr
 | ok nx w' =>
  cases nx <;> simp only [Oper.quietUpon] at hr ⊢
  case value u => exact hr
  case skip => exact hr
  case enter f args => exact ⟨hr.1, hr.2.mono fun e w'' hh => ⟨hh.1, h _ hh.2⟩⟩
/-- one quiet operation of the walk: shown over the worlds beyond whatever world of a state -/
theorem Walk.step {K : Act → Prop} {k : Nat} {ks : List Nat} {a A : Act} {o : Oper} (hcl : ∀ s w w', D s w → Below w.heap.size w w' → D s w') (s1 : σ) (w1 : World) (hs1 : D s1 w1) (ho : ops[k]? = some o) (hw : Region.wanted o (yielded ops a.tmps) = true) (d : Tmp) (hd : o.dst = some d) (hlt : d < a.tmps.size)
  (h : ∀ s w2, D s w2 → o.quiet P a (fun w' => ∃ p : Regrown, w' = grow (redrawn w2 p.d) p.os) (fun a' => a' = A)) (hn : Walk P ops D K ks A) : Walk P ops D K (k :: ks) a := by
 have hput : ∀ v, a.put o.dst v = A → v = A.tmps.getD d undef := by
  intro v e
  rw [← e, hd]
  simp [Act.put, hlt]
 obtain ⟨v0, _, e0⟩ := h s1 w1 hs1
 have hv0 := hput v0 e0
 refine ⟨o, ho, hw, v0, fun s w hw' => ?_, by rw [e0]; exact hn⟩
 obtain ⟨v, h1, e1⟩ := h s w hw'
 have hv := hput v e1
 rw [hv0, ← hv]
 have hself : ∃ p : Regrown, w = grow (redrawn w p.d) p.os := ⟨⟨w.drawn, #[]⟩, by rw [grow_empty]; rfl⟩
 exact upon_mono (fun w' hw2 => by obtain ⟨p, rfl⟩ := hw2; exact hcl s w _ hw' (below_regrown w p.d p.os)) (h1 w hself)
end
end Go.Proofs.YtdaokkgenfpmhaaGreat.Qw

/- 'm.list = append(m.list, f(..))' as a region that draws its order: the chain of the built slice and the append. No program is named here. -/
set_option linter.unusedVariables false
set_option linter.unusedSimpArgs false
namespace Go.Proofs.YtdaokkgenfpmhaaGreat.Qx
open Go.RowKit Go.Sort Base Qb Qt Qw Rec

/-- how far the region has come -/
inductive Ph where
 | pm
 | p0
 | p1 (gs : Nat)
 | p2 (v : Value)
section
variable {α : Type} {c : Nat} {enc : α → List Value} {E base base2 : Nat} {Jm J : World → Prop} {vp : Value} {lp : List α} {q : α} {row : Array Value}
/-- the state: Jm ahead of the call that writes, J behind it -/
def PhD (c : Nat) (enc : α → List Value) (E base base2 : Nat) (Jm J : World → Prop) (vp : Value) (lp : List α) (q : α) (row : Array Value) (s : Ph) (w : World) : Prop :=
 match s with
 | .pm => Jm w ∧ RecsOwn c enc E base w vp lp
 | .p0 => J w ∧ RecsOwn c enc E base w vp lp
 | .p1 gs => J w ∧ RecsOwn c enc E base w vp lp ∧ w.heap[gs]? = some (.cells row E)
 | .p2 v => J w ∧ RecsOwn c enc E base w v (lp ++ [q]) ∧ (v.ownBlock = vp.ownBlock ∨ ∀ b, v.ownBlock = some b → base2 ≤ b)
theorem PhD.step (hm : ∀ w w', Jm w → Below w.heap.size w w' → Jm w') (hj : ∀ w w', J w → Below w.heap.size w w' → J w') (s : Ph) (w w' : World) (h : PhD c enc E base base2 Jm J vp lp q row s w) (hb : Below w.heap.size w w') : PhD c enc E base base2 Jm J vp lp q row s w' := by
 cases s with
 | pm => exact ⟨hm _ _ h.1 hb, h.2.below hb (Nat.le_refl _)⟩
 | p0 => exact ⟨hj _ _ h.1 hb, h.2.below hb (Nat.le_refl _)⟩
 | p1 gs => exact ⟨hj _ _ h.1 hb, h.2.1.below hb (Nat.le_refl _), (hb.block gs (lt_of_heap h.2.2)).trans h.2.2⟩
 | p2 v => exact ⟨hj _ _ h.1 hb, h.2.1.below hb (Nat.le_refl _), h.2.2⟩
theorem Chain.app {P : Program} {ops : Array Oper} {T bytes kb ka : Nat} {a : Act} {ob oa : Oper} {z : Value} {K : Act → Ph → Prop} (hT : RecSlice P T E c enc z bytes)
  (hj : ∀ w w', J w → Below w.heap.size w w' → J w') (hg : ∀ w w', J w → RecsOwn c enc E base w vp lp → w.grownBy w' vp.ownBlock → J w') (hbase : ∀ w, J w → base ≤ w.heap.size) (hbase2 : ∀ w, J w → base2 ≤ w.heap.size)
  (hrow : row.toList = enc q) (hlen : (lp.length + 1) * bytes ≤ 140737488355328) (hlen2 : lp.length + 1 ≤ 140737488355328)
  (hob : ops[kb]? = some ob) (hwb : Region.wanted ob (yielded ops a.tmps) = true) (hrb : ∀ w, (execOp a.eval ob).run P w = .ok (.value (.slice (some ⟨w.heap.size, 0, none⟩) 1 1)) (w.alloc (.cells row E)))
  (hoa : ops[ka]? = some oa) (hga : oa.guard = none) (s x : Operand) (hop : oa.op = .call { callee := .builtin .append, args := #[s, x], argTypes := #[T, T] })
  (hs : ∀ gs, (a.put ob.dst (.slice (some ⟨gs, 0, none⟩) 1 1)).eval s = vp) (hx : ∀ gs, (a.put ob.dst (.slice (some ⟨gs, 0, none⟩) 1 1)).eval x = .slice (some ⟨gs, 0, none⟩) 1 1)
  (hK : ∀ gs v, K ((a.put ob.dst (.slice (some ⟨gs, 0, none⟩) 1 1)).put oa.dst v) (.p2 v)) : Chain P ops (PhD c enc E base base2 Jm J vp lp q row) K [kb, ka] a .p0 := by
 refine ⟨ob, hob, hwb, fun u s => ∃ gs, u = .slice (some ⟨gs, 0, none⟩) 1 1 ∧ s = .p1 gs, fun w hD => ?_, ?_⟩
 ·
  rw [hrb w]
  obtain ⟨h1, h2⟩ := hD
  exact ⟨.p1 w.heap.size, ⟨_, rfl, rfl⟩, hj _ _ h1 (ext_alloc w _), h2.below (ext_alloc w _) (Nat.le_refl _), heap_alloc_new _ _⟩
 ·
  rintro u s' ⟨gs, rfl, rfl⟩
  refine ⟨oa, hoa, by simp [Region.wanted, hga], fun v s => s = .p2 v, fun w hD => ?_, ?_⟩
  ·
   obtain ⟨h1, h2, h3⟩ := hD
   obtain ⟨i, hi, hz, hs1, hs2⟩ := hT.info
   have hone : ∀ y ∈ [q].flatMap enc, y.oneCell' = true := by intro y hy; simp only [List.flatMap_cons, List.flatMap_nil, List.append_nil] at hy; exact hT.one q y hy
   have hnews : ∀ j (y : Value), ([q].flatMap enc)[j]? = some y → w.cell? ((⟨gs, 0, none⟩ : Addr).add j) = some y := by
    intro j y hj
    simp only [List.flatMap_cons, List.flatMap_nil, List.append_nil] at hj
    rw [add_flat, cell_of_row w gs _ row _ _ h3, ← hj, ← hrow, Nat.zero_add]; simp
   obtain ⟨v', w', hrun, r1, r2, _, r3⟩ := run_append_own_at (P := P) (w := w) base T oa.type E i z c bytes hT.und hi hz hs1 hs2 hT.zone hT.pos vp lp.length (lp.flatMap enc) h2.row ⟨gs, 0, none⟩ 1 1 ([q].flatMap enc) (by simp [hT.len q]) hnews hone (by unfold maxLen; omega) hlen (hbase w h1)
   have he : (execOp (a.put ob.dst (.slice (some ⟨gs, 0, none⟩) 1 1)).eval oa).run P w = .ok (.value v') w' := by
    simp [execOp, hop, resolve, invoke, builtin, hs gs, hx gs, hrun, Result.andThen]
   rw [he]
   refine ⟨.p2 v', rfl, hg _ _ h1 h2 r2, ⟨?_⟩, ?_⟩
   ·
    rw [List.length_append, List.flatMap_append]; exact r1
   ·
    rcases r3 with e | e
    ·
     exact .inl e
    ·
     refine .inr fun b hb => ?_
     rw [e] at hb; simp only [Option.some.injEq] at hb
     have := hbase2 w h1; omega
  ·
   rintro v s' rfl
   exact hK gs v
end
end Go.Proofs.YtdaokkgenfpmhaaGreat.Qx

/- What a tree that is being built has in the world, and how it turns. -/
set_option linter.unusedVariables false
set_option linter.unusedSimpArgs false
namespace Go.Proofs.YtdaokkgenfpmhaaGreat.BvhW
open Go Go.RowKit Go.Sort Go.Lib FixM Base Num FixW Qb Qt Qa Qf VecW VecV VecU LightQ LightC MeshM Rec MeshA MeshD MeshP HitM HitX BvhM BvhA BvhB BvhS BvhT BvhU BvhV Qx
section
variable {α : Type} {c : Nat} {enc : α → List Value}
theorem flat_set (hlen : ∀ x, (enc x).length = c) : ∀ (l : List α) (i j : Nat) (h : i < l.length) (hj : j < c) (y : α) (a : Value), enc y = (enc l[i]).set j a → (l.set i y).flatMap enc = (l.flatMap enc).set (i * c + j) a := by
 intro l
 induction l with
 | nil => intro i j h; simp at h
 | cons x l ih =>
  intro i j h hj y a e
  cases i with
  | zero =>
   rw [List.set_cons_zero, List.flatMap_cons, List.flatMap_cons, e, Nat.zero_mul, Nat.zero_add, List.set_append_left _ _ (by rw [hlen]; exact hj)]
   rfl
  | succ i =>
   rw [List.set_cons_succ, List.flatMap_cons, List.flatMap_cons, List.set_append_right _ _ (by rw [hlen, Nat.add_mul]; omega), hlen, show (i + 1) * c + j - c = i * c + j by rw [Nat.add_mul]; omega, ih i j (by simpa using h) hj y a (by simpa using e)]
theorem _root_.Go.Proofs.YtdaokkgenfpmhaaGreat.Rec.RecsOwn.set1 (hlen : ∀ x, (enc x).length = c) {E base : Nat} {w : World} {g n cap : Nat} {l : List α} (h : RecsOwn c enc E base w (.slice (some ⟨g, 0, none⟩) n cap) l) (i j : Nat) (hi : i < l.length) (hj : j < c) (y : α) (a : Value) (e : enc y = (enc l[i]).set j a) :
  RecsOwn c enc E base (w.setCell ⟨g, i * c + j, none⟩ a) (.slice (some ⟨g, 0, none⟩) n cap) (l.set i y) := by
 have hn : n = l.length := by
  obtain ⟨a', cap', e'⟩ := h.slice_
  simp only [Value.slice.injEq] at e'
  exact e'.2.1
 subst hn
 have := (h.row.stored (i * c + j) a).1
 refine ⟨?_⟩
 rw [List.length_set, flat_set hlen l i j hi hj y a e]
 exact this
end
def encN (n : Nd) : List Value := [.int .i64 n.b.lo.x, .int .i64 n.b.lo.y, .int .i64 n.b.lo.z, .int .i64 n.b.hi.x, .int .i64 n.b.hi.y, .int .i64 n.b.hi.z, .int .i64 (n.f : Int), .int .i64 (n.t : Int), .int .i64 n.x, .int .i64 n.y]
theorem lenN (n : Nd) : (encN n).length = 10 := rfl
theorem oneN (n : Nd) : ∀ u ∈ encN n, u.oneCell' = true := by intro u hu; simp [encN] at hu; rcases hu with rfl | rfl | rfl | rfl | rfl | rfl | rfl | rfl | rfl | rfl <;> rfl
theorem nodes_slice : RecSlice Tryz.prog 63 84 10 encN (.agg #[.int .i64 0, .int .i64 0, .int .i64 0, .int .i64 0, .int .i64 0, .int .i64 0, .int .i64 0, .int .i64 0, .int .i64 0, .int .i64 0]) 80 := recSlice Tryz.underlying63 (by kernel_rfl) rfl oneN lenN (by decide)
theorem boxes_slice : RecSlice Tryz.prog 67 72 6 encB (.agg #[.int .i64 0, .int .i64 0, .int .i64 0, .int .i64 0, .int .i64 0, .int .i64 0]) 48 := recSlice Tryz.underlying67 (by kernel_rfl) rfl oneB lenB (by decide)
theorem _root_.Go.Proofs.YtdaokkgenfpmhaaGreat.Rec.RecsOwn.form {α : Type} {c : Nat} {enc : α → List Value} {E base : Nat} {w : World} {v : Value} {l : List α} (h : RecsOwn c enc E base w v l) (hp : 0 < l.length) : ∃ g cp cur, v = .slice (some ⟨g, 0, none⟩) l.length cp ∧ w.heap[g]? = some (.cells cur E) ∧ l.length ≤ cp ∧ cp ≤ 9223372036854775807 := by
 rcases h.row.2 with ⟨e, h0⟩ | ⟨g, cp, cur, e, -, hg, h1, h2, -⟩
 ·
  omega
 ·
  exact ⟨g, cp, cur, e, hg, h1, h2⟩
/-- a tree under way: its state s, built in a world whose blocks below base stay -/
structure Bd (w0 w : World) (base gM gT : Nat) (vb v0 v1 v2 : Value) (mo : Int) (blk cap : Nat) (bs : List Bx) (vn : Value) (s : Sta) : Prop where
 mt : MkAt w gM gT vb vn v0 v1 v2 (s.st : Int) mo (s.dp : Int) blk cap bs s.l base
 ns : RecsOwn 10 encN 84 base w vn s.ns
 hb : Below base w0 w
 low : base ≤ gM ∧ base ≤ gT ∧ gM ≠ gT ∧ base ≤ w.heap.size
 nn : ∀ b, vn.ownBlock = some b → b ≠ gM ∧ b ≠ gT ∧ b ≠ blk ∧ vb.ownBlock ≠ some b
 bm : vb.ownBlock ≠ some gM ∧ vb.ownBlock ≠ some gT
 bl : ∀ b, vb.ownBlock = some b → b < w.heap.size
section
variable {w0 w w' : World} {base gM gT : Nat} {vb v0 v1 v2 : Value} {mo : Int} {blk cap : Nat} {bs : List Bx} {vn : Value} {s : Sta}
theorem Bd.below (h : Bd w0 w base gM gT vb v0 v1 v2 mo blk cap bs vn s) (hb : Below w.heap.size w w') : Bd w0 w' base gM gT vb v0 v1 v2 mo blk cap bs vn s where
 mt := ⟨vec_step h.mt.m hb, vec_step h.mt.t hb, h.mt.b.below hb (Nat.le_refl _), h.mt.o.below hb (Nat.le_refl _), h.mt.nM, h.mt.nT, h.mt.nb⟩
 ns := h.ns.below hb (Nat.le_refl _)
 hb := h.hb.trans (hb.mono h.low.2.2.2)
 low := ⟨h.low.1, h.low.2.1, h.low.2.2.1, Nat.le_trans h.low.2.2.2 hb.size⟩
 nn := h.nn
 bm := h.bm
 bl := fun b e => Nat.lt_of_lt_of_le (h.bl b e) hb.size
/-- a cell of the tree itself -/
theorem Bd.setT (h : Bd w0 w base gM gT vb v0 v1 v2 mo blk cap bs vn s) (d : Nat) : Bd w0 (w.setCell ⟨gT, 6, none⟩ (.int .i64 (d : Int))) base gM gT vb v0 v1 v2 mo blk cap bs vn ⟨s.ns, s.l, d, s.st⟩ := by
 have hk := (Keeps.refl (fun k => k = gT) w).setCell gT 6 (.int .i64 (d : Int)) (.inl rfl)
 refine ⟨⟨?_, ?_, h.mt.b.frame hk (fun b e1 e2 => h.bm.2 (by rw [e1, e2])), h.mt.o.frame hk (fun b e1 e2 => by simp [Value.ownBlock] at e1; exact h.mt.nT (by omega)), h.mt.nM, h.mt.nT, h.mt.nb⟩, h.ns.frame hk (fun b e1 e2 => (h.nn b e1).2.1 e2), h.hb.trans (hk.below base h.low.2.2.2 (fun k e => by have := h.low.2.1; omega)), ⟨h.low.1, h.low.2.1, h.low.2.2.1, Nat.le_trans h.low.2.2.2 hk.size⟩, h.nn, h.bm, fun b e => Nat.lt_of_lt_of_le (h.bl b e) hk.size⟩
 ·
  exact keep_cell hk h.mt.m h.low.2.2.1
 ·
  rw [heap_setCell_same _ _ _ _ _ _ h.mt.t]; rfl
theorem Bd.setM (h : Bd w0 w base gM gT vb v0 v1 v2 mo blk cap bs vn s) (d : Nat) : Bd w0 (w.setCell ⟨gM, 2, none⟩ (.int .i64 (d : Int))) base gM gT vb v0 v1 v2 mo blk cap bs vn ⟨s.ns, s.l, s.dp, d⟩ := by
 have hk := (Keeps.refl (fun k => k = gM) w).setCell gM 2 (.int .i64 (d : Int)) (.inl rfl)
 refine ⟨⟨?_, ?_, h.mt.b.frame hk (fun b e1 e2 => h.bm.1 (by rw [e1, e2])), h.mt.o.frame hk (fun b e1 e2 => by simp [Value.ownBlock] at e1; exact h.mt.nM (by omega)), h.mt.nM, h.mt.nT, h.mt.nb⟩, h.ns.frame hk (fun b e1 e2 => (h.nn b e1).1 e2), h.hb.trans (hk.below base h.low.2.2.2 (fun k e => by have := h.low.1; omega)), ⟨h.low.1, h.low.2.1, h.low.2.2.1, Nat.le_trans h.low.2.2.2 hk.size⟩, h.nn, h.bm, fun b e => Nat.lt_of_lt_of_le (h.bl b e) hk.size⟩
 ·
  rw [heap_setCell_same _ _ _ _ _ _ h.mt.m]; rfl
 ·
  exact keep_cell hk h.mt.t (Ne.symm h.low.2.2.1)
/-- one node more -/
theorem Bd.app {w1 : World} {v' : Value} {q : Nd} (h : Bd w0 w base gM gT vb v0 v1 v2 mo blk cap bs vn s) (hk : Keeps (fun k => vn.ownBlock = some k) w w1) (ho : RecsOwn 10 encN 84 base w1 v' (s.ns ++ [q])) (hv : v'.ownBlock = vn.ownBlock ∨ ∀ b, v'.ownBlock = some b → w.heap.size ≤ b) :
  Bd w0 (w1.setCell ⟨gT, 4, none⟩ v') base gM gT vb v0 v1 v2 mo blk cap bs v' ⟨s.ns ++ [q], s.l, s.dp, s.st⟩ := by
 have hk2 := (Keeps.refl (fun k => k = gT) w1).setCell gT 4 v' (.inl rfl)
 have nn' : ∀ b, v'.ownBlock = some b → b ≠ gM ∧ b ≠ gT ∧ b ≠ blk ∧ vb.ownBlock ≠ some b := by
  intro b hb
  rcases hv with e | e
  ·
   exact h.nn b (e ▸ hb)
  ·
   have h1 := e b hb
   have h2 := Base.lt_of_heap h.mt.m
   have h3 := Base.lt_of_heap h.mt.t
   have h4 := (h.mt.o.lt blk rfl).2
   refine ⟨by omega, by omega, by omega, fun e2 => ?_⟩
   have := h.bl b e2; omega
 refine ⟨⟨?_, ?_, (h.mt.b.frame hk (fun b e1 e2 => (h.nn b e2).2.2.2 e1)).frame hk2 (fun b e1 e2 => h.bm.2 (by rw [e1, e2])), (h.mt.o.frame hk (fun b e1 e2 => by simp [Value.ownBlock] at e1; exact (h.nn b e2).2.2.1 (by omega))).frame hk2 (fun b e1 e2 => by simp [Value.ownBlock] at e1; exact h.mt.nT (by omega)), h.mt.nM, h.mt.nT, h.mt.nb⟩, ho.frame hk2 (fun b e1 e2 => (nn' b e1).2.1 e2), (h.hb.trans (hk.below base h.low.2.2.2 (fun k e => (h.ns.lt k e).1))).trans (hk2.below base (Nat.le_trans h.low.2.2.2 hk.size) (fun k e => by have := h.low.2.1; omega)), ⟨h.low.1, h.low.2.1, h.low.2.2.1, Nat.le_trans h.low.2.2.2 (Nat.le_trans hk.size hk2.size)⟩, nn', h.bm, fun b e => Nat.lt_of_lt_of_le (h.bl b e) (Nat.le_trans hk.size hk2.size)⟩
 ·
  exact keep_cell hk2 (keep_cell hk h.mt.m (fun e => (h.nn gM e).1 rfl)) h.low.2.2.1
 ·
  rw [heap_setCell_same _ _ _ _ _ _ (keep_cell hk h.mt.t (fun e => (h.nn gT e).2.1 rfl))]; rfl
/-- a part of the order in another order -/
theorem Bd.sorted {l' : List Nat} (h : Bd w0 w base gM gT vb v0 v1 v2 mo blk cap bs vn s) (hk : Keeps (fun k => k = blk) w w') (ho : Own .i64 9223372036854775808 3 base w' (.slice (some ⟨blk, 0, none⟩) s.l.length cap) l') (hl : l'.length = s.l.length) : Bd w0 w' base gM gT vb v0 v1 v2 mo blk cap bs vn ⟨s.ns, l', s.dp, s.st⟩ where
 mt := ⟨keep_cell hk h.mt.m h.mt.nM, by rw [hl]; exact keep_cell hk h.mt.t h.mt.nT, h.mt.b.frame hk (fun b e1 e2 => h.mt.nb (by rw [e1, e2])), by rw [hl]; exact ho, h.mt.nM, h.mt.nT, h.mt.nb⟩
 ns := h.ns.frame hk (fun b e1 e2 => (h.nn b e1).2.2.1 e2)
 hb := h.hb.trans (hk.below base h.low.2.2.2 (fun k e => by rw [e]; exact (h.mt.o.lt blk rfl).1))
 low := ⟨h.low.1, h.low.2.1, h.low.2.2.1, Nat.le_trans h.low.2.2.2 hk.size⟩
 nn := h.nn
 bm := h.bm
 bl := fun b e => Nat.lt_of_lt_of_le (h.bl b e) hk.size
/-- a node's kids -/
theorem Bd.kids {g n cp : Nat} (h : Bd w0 w base gM gT vb v0 v1 v2 mo blk cap bs (.slice (some ⟨g, 0, none⟩) n cp) s) (i : Nat) (hi : i < s.ns.length) (b : Bx) (f t : Nat) (x0 y0 x y : Int) (he : s.ns[i] = ⟨b, f, t, x0, y0⟩) :
  Bd w0 ((w.setCell ⟨g, i * 10 + 8, none⟩ (.int .i64 x)).setCell ⟨g, i * 10 + 9, none⟩ (.int .i64 y)) base gM gT vb v0 v1 v2 mo blk cap bs (.slice (some ⟨g, 0, none⟩) n cp) ⟨s.ns.set i ⟨b, f, t, x, y⟩, s.l, s.dp, s.st⟩ := by
 have hg := h.nn g rfl
 have hk := ((Keeps.refl (fun k => k = g) w).setCell g (i * 10 + 8) (.int .i64 x) (.inl rfl)).setCell g (i * 10 + 9) (.int .i64 y) (.inl rfl)
 have hbg : base ≤ g := (h.ns.lt g rfl).1
 refine ⟨⟨keep_cell hk h.mt.m (Ne.symm hg.1), keep_cell hk h.mt.t (Ne.symm hg.2.1), h.mt.b.frame hk (fun b e1 e2 => hg.2.2.2 (by rw [e1, e2])), h.mt.o.frame hk (fun b e1 e2 => by simp [Value.ownBlock] at e1; exact hg.2.2.1 (by omega)), h.mt.nM, h.mt.nT, h.mt.nb⟩, ?_, h.hb.trans (hk.below base h.low.2.2.2 (fun k e => by omega)), ⟨h.low.1, h.low.2.1, h.low.2.2.1, Nat.le_trans h.low.2.2.2 hk.size⟩, h.nn, h.bm, fun b e => Nat.lt_of_lt_of_le (h.bl b e) hk.size⟩
 have h1 := h.ns.set1 lenN i 8 hi (by decide) ⟨b, f, t, x, y0⟩ (.int .i64 x) (by rw [he]; rfl)
 have h2 := h1.set1 lenN i 9 (by rw [List.length_set]; exact hi) (by decide) ⟨b, f, t, x, y⟩ (.int .i64 y) (by rw [List.getElem_set_self]; rfl)
 rw [List.set_set] at h2
 exact h2
end
end Go.Proofs.YtdaokkgenfpmhaaGreat.BvhW

/- The walk of layer 14's add. -/
set_option linter.unusedVariables false
set_option linter.unusedSimpArgs false
namespace Go.Proofs.YtdaokkgenfpmhaaGreat.BvhX
open Go Go.RowKit Go.Sort Go.Lib FixM Base Num FixW Qb Qt Qa Qf VecW VecV VecU LightQ LightC MeshM Rec MeshA MeshD MeshP HitM HitX BvhM BvhA BvhB BvhS BvhT BvhU BvhV Qx BvhW
theorem ok_join {a b : Bx} (ha : HitM.Bx.ok a) (hb : HitM.Bx.ok b) : HitM.Bx.ok (joinB a b) := by
 unfold HitM.Bx.ok V3.ok In joinB minI maxI at *
 dsimp only at *
 refine ⟨⟨?_, ?_, ?_⟩, ?_, ?_, ?_⟩ <;> split <;> omega
theorem ok_zero : HitM.Bx.ok zeroB := by unfold HitM.Bx.ok V3.ok In zeroB; decide
theorem ok_at {bs : List Bx} (ok : ∀ b ∈ bs, HitM.Bx.ok b) (i : Nat) : HitM.Bx.ok (bs.getD i zeroB) := by
 by_cases h : i < bs.length
 ·
  have : bs.getD i zeroB = bs[i] := by simp [h]
  rw [this]; exact ok _ (List.getElem_mem h)
 ·
  have : bs.getD i zeroB = zeroB := by simp [h]
  rw [this]; exact ok_zero
theorem ok_fold {bs : List Bx} (ok : ∀ b ∈ bs, HitM.Bx.ok b) (l : List Nat) : ∀ b : Bx, HitM.Bx.ok b → HitM.Bx.ok (l.foldl (fun (b : Bx) (j : Nat) => joinB b (bs.getD j zeroB)) b) := by
 induction l with
 | nil => intro b h; exact h
 | cons x l ih => intro b h; exact ih _ (ok_join h (ok_at ok x))
theorem ok_boxS {bs : List Bx} (ok : ∀ b ∈ bs, HitM.Bx.ok b) (l : List Nat) : HitM.Bx.ok (boxS bs l) := by
 cases l with
 | nil => exact ok_zero
 | cons x l => exact ok_fold ok l _ (ok_at ok x)
theorem node_cell {E base : Nat} {w : World} {g n cp : Nat} {l : List Nd} (h : RecsOwn 10 encN E base w (.slice (some ⟨g, 0, none⟩) n cp) l) (i : Nat) (hi : i < l.length) (k : Nat) (x : Value) (hx : (encN l[i])[k]? = some x) : w.cell? ⟨g, i * 10 + k, none⟩ = some x := by
 obtain ⟨b, off, cap, e, _, hc⟩ := (h.recs lenN).cells (by intro e; subst e; simp at hi)
 simp only [Value.slice.injEq, Option.some.injEq, Addr.mk.injEq, and_true] at e
 obtain ⟨⟨rfl, rfl⟩, -⟩ := e
 have := hc i hi k x hx
 rw [Nat.zero_add] at this
 exact this
theorem drew_below (w : World) : Below w.heap.size w w.drew := ⟨rfl, rfl, rfl, Nat.le_refl _, fun _ _ => rfl⟩
theorem wrap_sum (f k h : Nat) (e : h = f + k) (hb : h ≤ 4611686018427387903) : wrap64 ((f : Int) + (k : Int)) = (h : Int) := by unfold wrap64; omega
theorem wrap_half (m k : Nat) (e : k = m / 2) (hb : m ≤ 4611686018427387903) : wrap64 ((m : Int) / 2) = (k : Int) := by unfold wrap64; omega
theorem wrap_more (d h : Nat) (e : h = d + 1) (hb : d ≤ 4611686018427387903) : IntKind.i64.wrap ((d : Int) + 1) = (h : Int) := by rw [MeshC.wrap_in (by omega) (by omega)]; omega
theorem half_le (f t m k h : Nat) (e : h = f + k) (hk : k = m / 2) (hm : f + m = t) (ht : t ≤ 1048576) : h ≤ 4611686018427387903 ∧ m ≤ 4611686018427387903 := by omega
theorem node_size : (Tryz.prog.info? 84).map (·.size) = some 10 := by kernel_rfl
theorem ones10 (a b c d e f g h i j : Int) : ∀ v ∈ (#[Value.int .i64 a, .int .i64 b, .int .i64 c, .int .i64 d, .int .i64 e, .int .i64 f, .int .i64 g, .int .i64 h, .int .i64 i, .int .i64 j] : Array Value).toList, v.oneCell' = true := by
 intro v hv; simp at hv; rcases hv with rfl | rfl | rfl | rfl | rfl | rfl | rfl | rfl | rfl | rfl <;> rfl
theorem store_node {ops : Array Oper} {rest : List Oper} {o : Oper} {a : Act} {w : World} {Q : Exit → Act → World → Prop} (hgd : o.guard = none) (x y : Operand) (ho : o.op = .store 84 x y) (hd : o.dst = none)
  (gn : Nat) (A B C D E F G H I J : Int) (hx : a.eval x = .pointer (some ⟨gn, 0, none⟩)) (hy : a.eval y = .agg #[.int .i64 A, .int .i64 B, .int .i64 C, .int .i64 D, .int .i64 E, .int .i64 F, .int .i64 G, .int .i64 H, .int .i64 I, .int .i64 J]) (cur : Array Value) (hg : w.heap[gn]? = some (.cells cur 84)) (hc2 : cur.size = 10)
  (h : wpList Tryz.prog ops Q rest a (w.setRow gn #[.int .i64 A, .int .i64 B, .int .i64 C, .int .i64 D, .int .i64 E, .int .i64 F, .int .i64 G, .int .i64 H, .int .i64 I, .int .i64 J])) : wpList Tryz.prog ops Q (o :: rest) a w :=
 wpList_store_arr hgd 84 x y ho gn _ hx hy 84 cur hg node_size (by rw [hc2]; rfl) (ones10 _ _ _ _ _ _ _ _ _ _) hd h
set_option maxRecDepth 100000 in
set_option maxHeartbeats 16000000 in
theorem add_any (w0 : World) (base gM gT : Nat) (vb v0 v1 v2 : Value) (mo : Int) (blk cap : Nat) (bs : List Bx) (ok : ∀ b ∈ bs, HitM.Bx.ok b) (hbs : bs.length ≤ 4611686018427387903) :
  ∀ (n f t d : Nat) (w : World) (vn : Value) (s : Sta), Bd w0 w base gM gT vb v0 v1 v2 mo blk cap bs vn s → Side bs n f t d s →
   Calls Tryz.prog 24 #[.pointer (some ⟨gM, 0, none⟩), .int .i64 (f : Int), .int .i64 (t : Int), .int .i64 (d : Int)] w (fun e w' => e = .returned (.int .i64 (s.ns.length : Int)) ∧ ∃ vn', Bd w0 w' base gM gT vb v0 v1 v2 mo blk cap bs vn' (addP bs mo n f t d s)) := by
 intro n
 induction n with
 | zero => intro f t d w vn s _ h1; have h2 := h1.2.1; have h3 := h1.2.2.1; omega
 | succ n ih =>
  intro f t d w vn s h hside
  have HSIDE := Lib.hid hside
  obtain ⟨hl, hn, hft, ht, hll, hnl, hst, hdl, hdp⟩ := hside
  have IH := Lib.hid ih
  clear ih
  have HSTOP := Lib.hid (fun hh => addP_stop bs mo n f t d s hh)
  have HGO := Lib.hid (fun hh => addP_go bs mo n f t d s hh)
  obtain ⟨R, hR⟩ : ∃ R, R = addP bs mo (n + 1) f t d s := ⟨_, rfl⟩
  rw [← hR] at HSTOP HGO ⊢
  clear hR
  have HBX := Lib.hid (ok_boxS ok (segL s.l f t))
  have HOK := Lib.hid ok
  have HLK := Lib.hid hl
  have HNN := Lib.hid (And.intro hn (And.intro hft (And.intro ht (And.intro hll (And.intro hnl (And.intro hst (And.intro hdl hdp)))))))
  have HBS := Lib.hid hbs
  have CA := Lib.hid (around_any w gM gT vb vn v0 v1 v2 _ mo _ blk cap bs s.l base h.mt hl f t hft ht (by omega))
  have HS1 := Lib.hid (show s1 bs f t d s = ⟨s.ns ++ [⟨boxS bs (segL s.l f t), f, t, -1, -1⟩], s.l, max s.dp d, s.st + (t - f)⟩ from rfl)
  have HS2 := Lib.hid (show s2 bs f t d s = ⟨s.ns ++ [⟨boxS bs (segL s.l f t), f, t, -1, -1⟩], putSeg s.l f ((segL s.l f t).mergeSort (leN (axisF (boxS bs (segL s.l f t))) bs)), max s.dp d, s.st + (t - f)⟩ from rfl)
  change Hid (Calls _ _ _ _ (VTo (boxV (boxS bs (segL s.l f t))) w)) at CA
  obtain ⟨bx, hbx⟩ : ∃ b, b = boxS bs (segL s.l f t) := ⟨_, rfl⟩
  rw [← hbx] at CA HBX HS1 HS2 HGO
  have HBE := Lib.hid hbx
  unfold boxV at CA
  obtain ⟨m, hm⟩ : ∃ m, m = t - f := ⟨_, rfl⟩
  rw [← hm] at HS1 HS2 HNN HSTOP HGO
  have i1 : IntKind.i64.wrap ((t : Int) - (f : Int)) = (m : Int) := by rw [MeshC.wrap_in (by omega) (by omega)]; omega
  have HME := Lib.hid hm
  have hmst : s.st + m ≤ 1152921504606846976 := by
   have : m ≤ m * m := Nat.le_mul_of_pos_left _ (by omega)
   have := HNN.out.2.2.2.2.2.1
   omega
  obtain ⟨st1, hst1⟩ : ∃ x, x = s.st + m := ⟨_, rfl⟩
  rw [← hst1] at HS1 HS2 HSTOP HGO
  have i2 : IntKind.i64.wrap ((s.st : Int) + (m : Int)) = (st1 : Int) := by rw [MeshC.wrap_in (by omega) (by omega)]; omega
  have HST := Lib.hid (And.intro hst1 hmst)
  obtain ⟨dp1, hdp1⟩ : ∃ x, x = max s.dp d := ⟨_, rfl⟩
  rw [← hdp1] at HS1 HS2
  have i3 := max2_at (x := (s.dp : Int)) (y := (d : Int)) (n := (dp1 : Int)) (by unfold maxI; split <;> omega)
  have HDP := Lib.hid hdp1
  clear hbx hm hst1 hdp1 hmst hn ht hll hnl hst hdl hdp hl hbs ok
  obtain ⟨an, cn, hvn⟩ := h.ns.slice_
  have HD0 := Lib.hid h
  obtain ⟨N, hN⟩ : ∃ N, N = s.ns.length := ⟨_, rfl⟩
  rw [← hN] at hvn HGO ⊢
  have HNL := Lib.hid hN
  clear h hN
  subst hvn
  have c0 := cell_row HD0.out.mt.m 0 _ rfl
  have c4 := cell_row HD0.out.mt.t 4 _ rfl
  go_enter Tryz.func24, Tryz.ntmps24
  go_wp2_with fail
  refine CA.out.mono ?_
  rintro e w1 ⟨rfl, hb⟩
  have HD1 := Lib.hid (HD0.out.below hb)
  clear CA HD0 c0 c4 hb
  go_upto_region 4 with (with_reducible refine store_node rfl (.tmp 11) (.tmp 30) rfl rfl w1.heap.size bx.lo.x bx.lo.y bx.lo.z bx.hi.x bx.hi.y bx.hi.z (f : Int) (t : Int) (-1) (-1) rfl rfl _ (heap_alloc_new _ _) rfl ?_)
  have hx : Below w1.heap.size w1 ((w1.alloc (.cells #[.int .i64 0, .int .i64 0, .int .i64 0, .int .i64 0, .int .i64 0, .int .i64 0, .int .i64 0, .int .i64 0, .int .i64 0, .int .i64 0] 84)).setRow w1.heap.size #[.int .i64 bx.lo.x, .int .i64 bx.lo.y, .int .i64 bx.lo.z, .int .i64 bx.hi.x, .int .i64 bx.hi.y, .int .i64 bx.hi.z, .int .i64 (f : Int), .int .i64 (t : Int), .int .i64 (-1), .int .i64 (-1)]) := below_setRow (ext_alloc w1 (.cells #[.int .i64 0, .int .i64 0, .int .i64 0, .int .i64 0, .int .i64 0, .int .i64 0, .int .i64 0, .int .i64 0, .int .i64 0, .int .i64 0] 84)) (Nat.le_refl _) _
  have hn : ((w1.alloc (.cells #[.int .i64 0, .int .i64 0, .int .i64 0, .int .i64 0, .int .i64 0, .int .i64 0, .int .i64 0, .int .i64 0, .int .i64 0, .int .i64 0] 84)).setRow w1.heap.size #[.int .i64 bx.lo.x, .int .i64 bx.lo.y, .int .i64 bx.lo.z, .int .i64 bx.hi.x, .int .i64 bx.hi.y, .int .i64 bx.hi.z, .int .i64 (f : Int), .int .i64 (t : Int), .int .i64 (-1), .int .i64 (-1)]).heap[w1.heap.size]? = some (.cells #[.int .i64 bx.lo.x, .int .i64 bx.lo.y, .int .i64 bx.lo.z, .int .i64 bx.hi.x, .int .i64 bx.hi.y, .int .i64 bx.hi.z, .int .i64 (f : Int), .int .i64 (t : Int), .int .i64 (-1), .int .i64 (-1)] 84) := setRow_heap _ _ _ _ _ _ (heap_alloc_new _ _)
  obtain ⟨W2, hW⟩ : ∃ ww, ww = ((w1.alloc (.cells #[.int .i64 0, .int .i64 0, .int .i64 0, .int .i64 0, .int .i64 0, .int .i64 0, .int .i64 0, .int .i64 0, .int .i64 0, .int .i64 0] 84)).setRow w1.heap.size #[.int .i64 bx.lo.x, .int .i64 bx.lo.y, .int .i64 bx.lo.z, .int .i64 bx.hi.x, .int .i64 bx.hi.y, .int .i64 bx.hi.z, .int .i64 (f : Int), .int .i64 (t : Int), .int .i64 (-1), .int .i64 (-1)]) := ⟨_, rfl⟩
  rw [← hW] at hx hn ⊢
  clear hW
  have HD2 := Lib.hid (HD1.out.below hx)
  have HN := Lib.hid hn
  have HNE := Lib.hid (show gT < w1.heap.size ∧ gM < w1.heap.size ∧ blk < w1.heap.size ∧ (∀ b, (Value.slice an N cn).ownBlock = some b → b < w1.heap.size) from ⟨Base.lt_of_heap HD1.out.mt.t, Base.lt_of_heap HD1.out.mt.m, (HD1.out.mt.o.lt blk rfl).2, fun b e => (HD1.out.ns.lt b e).2⟩)
  clear hx hn HD1
  generalize w1.heap.size = gN at HN HNE ⊢
  clear w1
  have HJ := Lib.hid (fun (wa wb : World) (h : Keeps (fun k => (Value.slice an N cn).ownBlock = some k) W2 wa) (hb : Below wa.heap.size wa wb) => h.trans (Keeps.of_ext hb (fun _ => False)) (fun _ h => h.elim))
  have HG := Lib.hid (fun (wa wb : World) (h : Keeps (fun k => (Value.slice an N cn).ownBlock = some k) W2 wa) (_ : RecsOwn 10 encN 84 base wa (Value.slice an N cn) s.ns) (hg : wa.grownBy wb (Value.slice an N cn).ownBlock) => h.grown hg (fun k e => .inl e))
  have HBA := Lib.hid (fun (wa : World) (h : Keeps (fun k => (Value.slice an N cn).ownBlock = some k) W2 wa) => Nat.le_trans HD2.out.low.2.2.2 h.size)
  have HB2 := Lib.hid (fun (wa : World) (h : Keeps (fun k => (Value.slice an N cn).ownBlock = some k) W2 wa) => h.size)
  have HRT := Lib.hid (fun (wa : World) (h : Keeps (fun k => (Value.slice an N cn).ownBlock = some k) W2 wa) => keep_cell h HD2.out.mt.t (fun e => (HD2.out.nn gT e).2.1 rfl))
  have HRN := Lib.hid (fun (wa : World) (h : Keeps (fun k => (Value.slice an N cn).ownBlock = some k) W2 wa) => keep_cell h HN.out (fun e => Nat.lt_irrefl _ (HNE.out.2.2.2 gN e)))
  have HS0 := Lib.hid (show PhD 10 encN 84 base W2.heap.size (fun w' => Keeps (fun k => (Value.slice an N cn).ownBlock = some k) W2 w') (fun w' => Keeps (fun k => (Value.slice an N cn).ownBlock = some k) W2 w') (Value.slice an N cn) s.ns (⟨bx, f, t, -1, -1⟩ : Nd) #[.int .i64 bx.lo.x, .int .i64 bx.lo.y, .int .i64 bx.lo.z, .int .i64 bx.hi.x, .int .i64 bx.hi.y, .int .i64 bx.hi.z, .int .i64 (f : Int), .int .i64 (t : Int), .int .i64 (-1), .int .i64 (-1)] Ph.p0 W2 from ⟨Keeps.refl _ _, HD2.out.ns⟩)
  have HLE := Lib.hid (show (s.ns.length + 1) * 80 ≤ 140737488355328 by have := HNN.out; omega)
  have HLE2 := Lib.hid (show s.ns.length + 1 ≤ 140737488355328 by have := HNN.out; omega)
  go_upto_region 4 with (fail)
  refine Qw.wp_region_writes 8 [0, 1, 2, 3, 4, 5] [6, 7] (PhD 10 encN 84 base W2.heap.size (fun w' => Keeps (fun k => (Value.slice an N cn).ownBlock = some k) W2 w') (fun w' => Keeps (fun k => (Value.slice an N cn).ownBlock = some k) W2 w') (Value.slice an N cn) s.ns (⟨bx, f, t, -1, -1⟩ : Nd) #[.int .i64 bx.lo.x, .int .i64 bx.lo.y, .int .i64 bx.lo.z, .int .i64 bx.hi.x, .int .i64 bx.hi.y, .int .i64 bx.hi.z, .int .i64 (f : Int), .int .i64 (t : Int), .int .i64 (-1), .int .i64 (-1)]) Ph.p0 (by kernel_rfl) (by kernel_rfl) (PhD.step HJ.out HJ.out Ph.p0 W2 _ HS0.out ⟨rfl, rfl, rfl, Nat.le_refl _, fun _ _ => rfl⟩) ?_
  refine Qw.Walk.step (A := ?A1) (o := ?o1) (fun s w w2 h hb => PhD.step HJ.out HJ.out s w w2 h hb) Ph.p0 W2 HS0.out ?e1 ?w1 31 ?d1 (by simp) ?h1 ?n1
  case e1 => simp only [List.getElem?_toArray, List.getElem?_cons_succ, List.getElem?_cons_zero]; exact rfl
  case w1 => exact rfl
  case d1 => exact rfl
  case h1 =>
   intro s9 w9 h9
   go_big_quiet_op
   exact rfl
  refine Qw.Walk.step (A := ?A2) (o := ?o2) (fun s w w2 h hb => PhD.step HJ.out HJ.out s w w2 h hb) Ph.p0 W2 HS0.out ?e2 ?w2 32 ?d2 (by simp) ?h2 ?n2
  case e2 => simp only [List.getElem?_toArray, List.getElem?_cons_succ, List.getElem?_cons_zero]; exact rfl
  case w2 => exact rfl
  case d2 => exact rfl
  case h2 =>
   intro s9 w9 h9
   go_big_quiet_op
   exact rfl
  refine Qw.Walk.step (A := ?A3) (o := ?o3) (fun s w w2 h hb => PhD.step HJ.out HJ.out s w w2 h hb) Ph.p0 W2 HS0.out ?e3 ?w3 33 ?d3 (by simp) ?h3 ?n3
  case e3 => simp only [List.getElem?_toArray, List.getElem?_cons_succ, List.getElem?_cons_zero]; exact rfl
  case w3 => exact rfl
  case d3 => exact rfl
  case h3 =>
   intro s9 w9 h9
   go_big_quiet_op
   exact rfl
  refine Qw.Walk.step (A := ?A4) (o := ?o4) (fun s w w2 h hb => PhD.step HJ.out HJ.out s w w2 h hb) Ph.p0 W2 HS0.out ?e4 ?w4 34 ?d4 (by simp) ?h4 ?n4
  case e4 => simp only [List.getElem?_toArray, List.getElem?_cons_succ, List.getElem?_cons_zero]; exact rfl
  case w4 => exact rfl
  case d4 => exact rfl
  case h4 =>
   intro s9 w9 h9
   go_big_quiet_op
   exact rfl
  refine Qw.Walk.step (A := ?A5) (o := ?o5) (fun s w w2 h hb => PhD.step HJ.out HJ.out s w w2 h hb) Ph.p0 W2 HS0.out ?e5 ?w5 35 ?d5 (by simp) ?h5 ?n5
  case e5 => simp only [List.getElem?_toArray, List.getElem?_cons_succ, List.getElem?_cons_zero]; exact rfl
  case w5 => exact rfl
  case d5 => exact rfl
  case h5 =>
   intro s9 w9 h9
   have hJ9 : (fun w' => Keeps (fun k => (Value.slice an N cn).ownBlock = some k) W2 w') w9 := by cases s9 <;> exact h9.1
   have e0 := cell_all (HRT.out w9 hJ9) 4 _ rfl
   go_big_quiet_op
   exact rfl
  refine Qw.Walk.step (A := ?A6) (o := ?o6) (fun s w w2 h hb => PhD.step HJ.out HJ.out s w w2 h hb) Ph.p0 W2 HS0.out ?e6 ?w6 36 ?d6 (by simp) ?h6 ?n6
  case e6 => simp only [List.getElem?_toArray, List.getElem?_cons_succ, List.getElem?_cons_zero]; exact rfl
  case w6 => exact rfl
  case d6 => exact rfl
  case h6 =>
   intro s9 w9 h9
   have hJ9 : (fun w' => Keeps (fun k => (Value.slice an N cn).ownBlock = some k) W2 w') w9 := by cases s9 <;> exact h9.1
   have e0 := cell_all (HRN.out w9 hJ9) 0 _ rfl
   have e1 := cell_all (HRN.out w9 hJ9) 1 _ rfl
   have e2 := cell_all (HRN.out w9 hJ9) 2 _ rfl
   have e3 := cell_all (HRN.out w9 hJ9) 3 _ rfl
   have e4 := cell_all (HRN.out w9 hJ9) 4 _ rfl
   have e5 := cell_all (HRN.out w9 hJ9) 5 _ rfl
   have e6 := cell_all (HRN.out w9 hJ9) 6 _ rfl
   have e7 := cell_all (HRN.out w9 hJ9) 7 _ rfl
   have e8 := cell_all (HRN.out w9 hJ9) 8 _ rfl
   have e9 := cell_all (HRN.out w9 hJ9) 9 _ rfl
   go_big_quiet_op
   exact rfl
  refine Qx.Chain.app (ob := ?ob1) (oa := ?oa1) nodes_slice HJ.out HG.out HBA.out HB2.out rfl HLE.out HLE2.out ?b1 ?b2 ?b3 ?b4 ?b6 (.tmp 35) (.tmp 37) ?b7 ?b8 ?b9 ?b5
  case b1 => simp only [List.getElem?_toArray, List.getElem?_cons_succ, List.getElem?_cons_zero]; exact rfl
  case b4 => simp only [List.getElem?_toArray, List.getElem?_cons_succ, List.getElem?_cons_zero]; exact rfl
  case b2 => exact rfl
  case b6 => exact rfl
  case b7 => exact rfl
  case b8 => exact fun gs => rfl
  case b9 => exact fun gs => rfl
  case b3 => intro w9; simp [execOp, Act.eval, Act.put, go_sem]
  intro gs v9 w9 h9
  have H9 := Lib.hid h9
  clear h9
  simp only [List.drop_succ_cons, List.drop_zero, Act.put, List.setIfInBounds_toArray, List.set_cons_succ, List.set_cons_zero]
  obtain ⟨a9, c9, hv9⟩ := H9.out.2.1.slice_
  obtain ⟨N1, hN1⟩ : ∃ x, x = (s.ns ++ [(⟨bx, f, t, -1, -1⟩ : Nd)]).length := ⟨_, rfl⟩
  rw [← hN1] at hv9
  have HN1 := Lib.hid hN1
  clear hN1
  subst hv9
  have HT9 := Lib.hid (HRT.out _ H9.out.1)
  have HN9 := Lib.hid (HRN.out _ H9.out.1)
  have HD3 := Lib.hid (HD2.out.app H9.out.1 H9.out.2.1 H9.out.2.2)
  clear HJ HG HBA HB2 HRT HRN HS0 HLE HLE2
  have HN3 := Lib.hid (show (w9.setCell ⟨gT, 4, none⟩ (.slice a9 N1 c9)).heap[gN]? = some (.cells #[.int .i64 bx.lo.x, .int .i64 bx.lo.y, .int .i64 bx.lo.z, .int .i64 bx.hi.x, .int .i64 bx.hi.y, .int .i64 bx.hi.z, .int .i64 (f : Int), .int .i64 (t : Int), .int .i64 (-1), .int .i64 (-1)] 84) from (heap_setCell_other _ _ _ _ (Nat.ne_of_gt HNE.out.1)).trans HN9.out)
  have r9 := cell_row HT9.out 4 _ rfl
  have t9 := frozen_of_row _ _ 4 _ _ HT9.out
  go_upto_region 5 with (fail)
  obtain ⟨W3, hW⟩ : ∃ ww, ww = w9.setCell ⟨gT, 4, none⟩ (.slice a9 N1 c9) := ⟨_, rfl⟩
  rw [← hW] at HD3 HN3 ⊢
  clear hW r9 t9 H9 HT9 HN9 HD2 HN
  clear w9 W2
  have r9 : W3.cell? ⟨gT, 6, none⟩ = some (.int .i64 (s.dp : Int)) := cell_row HD3.out.mt.t 6 _ rfl
  have t9 := frozen_of_row _ _ 6 _ _ HD3.out.mt.t
  have HD4 := Lib.hid (HD3.out.setT dp1)
  have HN4 := Lib.hid (show (W3.setCell ⟨gT, 6, none⟩ (.int .i64 (dp1 : Int))).heap[gN]? = some (.cells #[.int .i64 bx.lo.x, .int .i64 bx.lo.y, .int .i64 bx.lo.z, .int .i64 bx.hi.x, .int .i64 bx.hi.y, .int .i64 bx.hi.z, .int .i64 (f : Int), .int .i64 (t : Int), .int .i64 (-1), .int .i64 (-1)] 84) from (heap_setCell_other _ _ _ _ (Nat.ne_of_gt HNE.out.1)).trans HN3.out)
  go_upto_region 6 with (fail)
  obtain ⟨W4, hW⟩ : ∃ ww, ww = W3.setCell ⟨gT, 6, none⟩ (.int .i64 (dp1 : Int)) := ⟨_, rfl⟩
  rw [← hW] at HD4 HN4 ⊢
  clear hW r9 t9 HD3 HN3
  clear W3
  have r9 : W4.cell? ⟨gM, 2, none⟩ = some (.int .i64 (s.st : Int)) := cell_row HD4.out.mt.m 2 _ rfl
  have t9 := frozen_of_row _ _ 2 _ _ HD4.out.mt.m
  have HD5 := Lib.hid (HD4.out.setM st1)
  have HN5 := Lib.hid (show (W4.setCell ⟨gM, 2, none⟩ (.int .i64 (st1 : Int))).heap[gN]? = some (.cells #[.int .i64 bx.lo.x, .int .i64 bx.lo.y, .int .i64 bx.lo.z, .int .i64 bx.hi.x, .int .i64 bx.hi.y, .int .i64 bx.hi.z, .int .i64 (f : Int), .int .i64 (t : Int), .int .i64 (-1), .int .i64 (-1)] 84) from (heap_setCell_other _ _ _ _ (Nat.ne_of_gt HNE.out.2.1)).trans HN4.out)
  go_upto_region 7 with (fail)
  obtain ⟨W5, hW⟩ : ∃ ww, ww = W4.setCell ⟨gM, 2, none⟩ (.int .i64 (st1 : Int)) := ⟨_, rfl⟩
  rw [← hW] at HD5 HN5 ⊢
  clear hW r9 t9 HD4 HN4
  clear W4
  have r2 := fun d os => cell_regrown (show W5.cell? ⟨gM, 2, none⟩ = some (.int .i64 (st1 : Int)) from cell_row HD5.out.mt.m 2 _ rfl) d os
  have r3 := fun d os => cell_regrown (show W5.cell? ⟨gM, 3, none⟩ = some (.int .i64 mo) from cell_row HD5.out.mt.m 3 _ rfl) d os
  by_cases hm2 : m ≤ 2
  ·
   have d1 : decide ((m : Int) ≤ 2) = true := decide_eq_true (by omega)
   have HR := Lib.hid (HSTOP.out (.inl hm2))
   clear hm2
   refine wp_region_quiet_below (by kernel_rfl) (by kernel_rfl) ?_
   repeat (go_big_quiet_step (fail))
   refine wpQuiet_nil ?_
   first | (rintro _ ⟨⟨dq, osq⟩, rfl⟩) | (rintro ⟨dq, osq⟩)
   have hb := below_regrown W5 dq osq
   obtain ⟨W6, hW⟩ : ∃ ww, ww = grow (redrawn W5 dq) osq := ⟨_, rfl⟩
   rw [← hW] at hb ⊢
   clear hW
   have HD6 := Lib.hid (HD5.out.below hb)
   have HN6 := Lib.hid (vec_step HN5.out hb)
   clear hb r2 r3 HD5 HN5
   clear W5
   clear d1
   go_wp2_with fail
   first | go_ret | go_end0
   exact ⟨by first | rfl | trivial, _, by rw [HR.out, HS1.out]; exact HD6.out⟩
  ·
   have d1 : decide ((m : Int) ≤ 2) = false := decide_eq_false (by omega)
   by_cases hmo : mo < (st1 : Int)
   ·
    have d2 : decide (mo < (st1 : Int)) = true := decide_eq_true hmo
    have HR := Lib.hid (HSTOP.out (.inr hmo))
    clear hmo hm2
    refine wp_region_quiet_below (by kernel_rfl) (by kernel_rfl) ?_
    repeat (go_big_quiet_step (fail))
    refine wpQuiet_nil ?_
    first | (rintro _ ⟨⟨dq, osq⟩, rfl⟩) | (rintro ⟨dq, osq⟩)
    have hb := below_regrown W5 dq osq
    obtain ⟨W6, hW⟩ : ∃ ww, ww = grow (redrawn W5 dq) osq := ⟨_, rfl⟩
    rw [← hW] at hb ⊢
    clear hW
    have HD6 := Lib.hid (HD5.out.below hb)
    have HN6 := Lib.hid (vec_step HN5.out hb)
    clear hb r2 r3 HD5 HN5
    clear W5
    clear d1 d2
    go_wp2_with fail
    first | go_ret | go_end0
    exact ⟨by first | rfl | trivial, _, by rw [HR.out, HS1.out]; exact HD6.out⟩
   ·
    have d2 : decide (mo < (st1 : Int)) = false := decide_eq_false hmo
    have HR := Lib.hid (HGO.out (by omega))
    have HM2 := Lib.hid hm2
    clear hmo hm2
    refine wp_region_quiet_below (by kernel_rfl) (by kernel_rfl) ?_
    repeat (go_big_quiet_step (fail))
    refine wpQuiet_nil ?_
    first | (rintro _ ⟨⟨dq, osq⟩, rfl⟩) | (rintro ⟨dq, osq⟩)
    have hb := below_regrown W5 dq osq
    obtain ⟨W6, hW⟩ : ∃ ww, ww = grow (redrawn W5 dq) osq := ⟨_, rfl⟩
    rw [← hW] at hb ⊢
    clear hW
    have HD6 := Lib.hid (HD5.out.below hb)
    have HN6 := Lib.hid (vec_step HN5.out hb)
    clear hb r2 r3 HD5 HN5
    clear W5
    clear d1 d2
    go_upto_region 9 with (fail)
    have y0 := cell_row HN6.out 0 _ rfl
    have y1 := cell_row HN6.out 1 _ rfl
    have y2 := cell_row HN6.out 2 _ rfl
    have y3 := cell_row HN6.out 3 _ rfl
    have y4 := cell_row HN6.out 4 _ rfl
    have y5 := cell_row HN6.out 5 _ rfl
    have y6 := cell_row HN6.out 6 _ rfl
    have y7 := cell_row HN6.out 7 _ rfl
    have y8 := cell_row HN6.out 8 _ rfl
    have y9 := cell_row HN6.out 9 _ rfl
    go_wp2_with fail
    refine (sort_any W6 gM gT vb _ v0 v1 v2 _ mo _ blk cap bs s.l base HD6.out.mt HOK.out HLK.out HBS.out (by have := HNN.out; omega) bx HBX.out f t hft HNN.out.2.2.1).mono ?_
    rintro e W7 ⟨rfl, ho, hk⟩
    have HD7 := Lib.hid (show Bd w0 W7 base gM gT vb v0 v1 v2 mo blk cap bs (.slice a9 N1 c9) (s2 bs f t d s) by
     rw [HS2.out]
     exact HD6.out.sorted hk ho (putSeg_length _ _ _ (by rw [List.length_mergeSort]; have h1 := segL_length s.l f t HNN.out.2.2.1; have h2 := h1; unfold segL at h2; have := HNN.out; omega)))
    clear ho hk HD6 HN6 y0 y1 y2 y3 y4 y5 y6 y7 y8 y9
    clear W6
    have HMB := Lib.hid (show m ≤ 1048576 ∧ t ≤ 1048576 ∧ f + m = t ∧ d ≤ 1073741824 from by have h1 := HNN.out.2.2.1; have h2 := HNN.out.2.2.2.1; have h3 := HNN.out.2.2.2.2.2.2.1; have h4 := HME.out; omega)
    obtain ⟨k2, hk2⟩ : ∃ x, x = m / 2 := ⟨_, rfl⟩
    obtain ⟨hf, hhf⟩ : ∃ x, x = f + (t - f) / 2 := ⟨_, rfl⟩
    have hfe : hf = f + k2 := by rw [hhf, hk2, HME.out]
    have HLB := half_le f t m k2 hf hfe hk2 HMB.out.2.2.1 HMB.out.2.1
    have i4 := wrap_half m k2 hk2 HLB.2
    have i5 := wrap_sum f k2 hf hfe HLB.1
    clear HLB
    obtain ⟨d1, hd1⟩ : ∃ x, x = d + 1 := ⟨_, rfl⟩
    have i6 := wrap_more d d1 hd1 (Nat.le_trans HMB.out.2.2.2 (by decide))
    have HHF := Lib.hid (And.intro hhf (And.intro hfe (And.intro hk2 hd1)))
    clear hk2 hhf hfe hd1
    go_upto_region 11 with (fail)
    rw [i5]
    clear i4 i5
    have HGT := Lib.hid (show ¬ t - f ≤ 2 by rw [← HME.out]; exact HM2.out)
    go_wp2_with fail
    refine (IH.out f hf d1 W7 _ (s2 bs f t d s) HD7.out (by rw [HHF.out.1, HHF.out.2.2.2]; exact side_first HSIDE.out HGT.out)).mono ?_
    rintro e W8 ⟨rfl, vn8, hd8⟩
    have HD8 := Lib.hid (show Bd w0 W8 base gM gT vb v0 v1 v2 mo blk cap bs vn8 (s3 bs mo n f t d s) by rw [HHF.out.1, HHF.out.2.2.2] at hd8; exact hd8)
    clear hd8 HD7
    clear W7
    go_wp2_with fail
    refine (IH.out hf t d1 W8 _ (s3 bs mo n f t d s) HD8.out (by rw [HHF.out.1, HHF.out.2.2.2]; exact side_second HSIDE.out HGT.out)).mono ?_
    rintro e W9 ⟨rfl, vn9, hd9⟩
    have HD9 := Lib.hid (show Bd w0 W9 base gM gT vb v0 v1 v2 mo blk cap bs vn9 (s4 bs mo n f t d s) by rw [HHF.out.1, HHF.out.2.2.2] at hd9; exact hd9)
    clear hd9 HD8
    clear W8
    obtain ⟨hk1, hk2⟩ := kids_at (mo := mo) HSIDE.out HGT.out
    obtain ⟨g, cp, cur, hv9, hg9, hcp, hcp2⟩ := HD9.out.ns.form (by omega)
    have HK := Lib.hid (show ∃ h : N < (s4 bs mo n f t d s).ns.length, (s4 bs mo n f t d s).ns[N] = ⟨bx, f, t, -1, -1⟩ by rw [HBE.out]; obtain rfl := HNL.out; exact ⟨hk1, hk2⟩)
    obtain ⟨n2, hn2⟩ : ∃ x, x = (s2 bs f t d s).ns.length := ⟨_, rfl⟩
    obtain ⟨n3, hn3⟩ : ∃ x, x = (s3 bs mo n f t d s).ns.length := ⟨_, rfl⟩
    obtain ⟨LL, hLL⟩ : ∃ x, x = (s4 bs mo n f t d s).ns.length := ⟨_, rfl⟩
    rw [← hn2, ← hn3]
    rw [← hLL] at hv9 hcp
    have hNL : N < LL := by rw [hLL]; exact HK.out.1
    have HN2 := Lib.hid (And.intro hn2 (And.intro hn3 hLL))
    clear hn2 hn3 hLL hk1 hk2
    subst hv9
    have c4 := cell_row HD9.out.mt.t 4 _ rfl
    have t1 := frozen_of_row _ _ (N * 10 + 8) _ _ hg9
    have t2 := frozen_of_row _ _ (N * 10 + 9) _ _ hg9
    have q1 := node_cell HD9.out.ns N HK.out.1 8 (.int .i64 (-1)) (by rw [HK.out.2]; rfl)
    have q2 := node_cell HD9.out.ns N HK.out.1 9 (.int .i64 (-1)) (by rw [HK.out.2]; rfl)
    clear hg9
    go_upto_region 13 with (fail)
    go_region
    have HE := Lib.hid ((HD9.out.kids N HK.out.1 bx f t (-1) (-1) (n2 : Int) (n3 : Int) HK.out.2).below (drew_below _))
    have HRR := Lib.hid (show R = ⟨(s4 bs mo n f t d s).ns.set N ⟨bx, f, t, (n2 : Int), (n3 : Int)⟩, (s4 bs mo n f t d s).l, (s4 bs mo n f t d s).dp, (s4 bs mo n f t d s).st⟩ by
     rw [HR.out, HN2.out.2.1, HN2.out.1]
     have : (s2 bs f t d s).ns.length = N + 1 := by rw [HS2.out, HNL.out]; simp
     rw [this])
    obtain ⟨WW, hW⟩ : ∃ ww, ww = ((W9.setCell ⟨g, N * 10 + 8, none⟩ (.int .i64 (n2 : Int))).setCell ⟨g, N * 10 + 9, none⟩ (.int .i64 (n3 : Int))).drew := ⟨_, rfl⟩
    rw [← hW] at HE ⊢
    clear hW q1 q2 t1 t2 c4 HD9
    go_wp2_with fail
    first | go_ret | go_end0
    exact ⟨by first | rfl | trivial, _, by rw [HRR.out]; exact HE.out⟩

end Go.Proofs.YtdaokkgenfpmhaaGreat.BvhX

/- slices.Clone at a mesh's three rows. -/
set_option linter.unusedVariables false
set_option linter.unusedSimpArgs false
namespace Go.Proofs.YtdaokkgenfpmhaaGreat.BvhC
open Go Go.RowKit Go.Sort Go.Lib FixM Base Num FixW Qb Qt Qa Qf VecW VecV VecU LightQ LightC MeshM Rec MeshA MeshD MeshP HitM HitX BvhM BvhA BvhB
theorem vecs_slice : RecSlice Tryz.prog 27 46 3 enc3 (.agg #[.int .i64 0, .int .i64 0, .int .i64 0]) 24 := recSlice Tryz.underlying27 (by kernel_rfl) rfl one3 len3 (by decide)
theorem tris_slice : RecSlice Tryz.prog 28 52 3 enc3 (.agg #[.int .i64 0, .int .i64 0, .int .i64 0]) 24 := recSlice Tryz.underlying28 (by kernel_rfl) rfl one3 len3 (by decide)
theorem balls_slice : RecSlice Tryz.prog 29 51 4 enc4 (.agg #[.int .i64 0, .int .i64 0, .int .i64 0, .int .i64 0]) 32 := recSlice Tryz.underlying29 (by kernel_rfl) rfl one4 len4 (by decide)
/-- its block, if it has one, is not below B -/
def Fr (B : Nat) (v : Value) : Prop := ∀ b, v.ownBlock = some b → B ≤ b
def FrM (B : Nat) (v : Value) : Prop := ∀ v0 v1 v2, v = .agg #[v0, v1, v2] → Fr B v0 ∧ Fr B v1 ∧ Fr B v2
theorem frM {B : Nat} {v0 v1 v2 : Value} (h0 : Fr B v0) (h1 : Fr B v1) (h2 : Fr B v2) : FrM B (.agg #[v0, v1, v2]) := by
 intro a b c e
 simp only [Value.agg.injEq, Array.mk.injEq, List.cons.injEq, and_true] at e
 obtain ⟨rfl, rfl, rfl⟩ := e
 exact ⟨h0, h1, h2⟩
/-- a clone -/
def ClTo {α : Type} (c : Nat) (enc : α → List Value) (w : World) (l : List α) (e : Ending) (w' : World) : Prop := ∃ a n cap, e = .returned (.slice a n cap) ∧ Recs c enc w' (.slice a n cap) l ∧ Fr w.heap.size (.slice a n cap) ∧ Below w.heap.size w w'
theorem own_empty {α : Type} (c : Nat) (enc : α → List Value) (w : World) (E : Nat) : RecsOwn c enc E w.heap.size (w.alloc (.cells #[] E)) (.slice (some ⟨w.heap.size, 0, none⟩) 0 0) ([] : List α) :=
 ⟨⟨by simp, .inr ⟨w.heap.size, 0, #[], rfl, Nat.le_refl _, heap_alloc_new _ _, by simp, by simp, by simp, by simp⟩⟩⟩
theorem eqn_vec (w : World) : (binOp .eql 27 (.slice none 0 0) (.slice none 0 0)).run Tryz.prog w = .ok (.bool true) w := by kernel_rfl
theorem eqs_vec (a : Addr) (n cap : Nat) (w : World) : (binOp .eql 27 (.slice (some a) n cap) (.slice none 0 0)).run Tryz.prog w = .ok (.bool false) w := by kernel_rfl
set_option maxRecDepth 100000 in
set_option maxHeartbeats 4000000 in
theorem clone_vec (w : World) (v : Value) (l : List V3) (hv : Recs 3 enc3 w v l) (hl : l.length ≤ 1000000) : Calls Tryz.prog 19 #[v] w (ClTo 3 enc3 w l) := by
 obtain ⟨a, cap, rfl, h1, h2, h3⟩ := hv.shape
 have HV := Lib.hid hv
 cases a with
 | none =>
  obtain ⟨h4, rfl⟩ := h3 rfl
  obtain rfl : l = [] := List.eq_nil_of_length_eq_zero h4
  clear hv h1 h2 h3 h4 hl
  have e0 := eqn_vec w
  go_enter Tryz.func19, Tryz.ntmps19
  go_wp2_with fail
  first | go_ret | go_end0
  exact ⟨none, 0, 0, rfl, Recs.nil _, fun b e => by simp [Value.ownBlock] at e, Below.refl _ _⟩
 | some a =>
  have HC := Lib.hid (show (([] : List V3).length + l.length) * 24 ≤ 140737488355328 by simp; omega)
  have HC2 := Lib.hid (show ([] : List V3).length + l.length ≤ 140737488355328 by simp; omega)
  have HU := Lib.hid (hv.below (ext_alloc w (.cells #[] 46)) (Nat.le_refl _))
  have HO := Lib.hid (own_empty 3 enc3 w 46)
  have HB0 := Lib.hid (ext_alloc w (.cells #[] 46))
  have HS := Lib.hid (show w.heap.size ≤ (w.alloc (.cells #[] 46)).heap.size by simp)
  obtain ⟨n, hn⟩ : ∃ n, n = l.length := ⟨_, rfl⟩
  rw [← hn] at HU ⊢
  have HNL := Lib.hid hn
  clear hv h1 h2 h3 hl hn HV
  have e0 := eqs_vec a n cap w
  go_enter Tryz.func19, Tryz.ntmps19
  go_wp2_with (at_builtin; refine wpList_append_recs rfl (.tmp 5) (.tmp 6) 27 46 rfl (.agg #[.int .i64 0, .int .i64 0, .int .i64 0]) 24 w.heap.size vecs_slice (.slice (some ⟨w.heap.size, 0, none⟩) 0 0) [] rfl HO.out (.slice (some a) n cap) l rfl HU.out HC.out HC2.out HS.out ?_; intro v9 w9 ho9 hg9 _; have HO9 := Lib.hid ho9; have HB9 := Lib.hid hg9; clear ho9 hg9)
  first | go_ret | go_end0
  obtain ⟨a9, c9, rfl⟩ := HO9.out.slice_
  refine ⟨_, _, _, rfl, HO9.out.recs len3, fun b e => (HO9.out.lt b e).1, ?_⟩
  have hk := (Keeps.of_below HB0.out (fun k => w.heap.size ≤ k) (fun k h _ => h)).grown HB9.out (fun k e => .inr (by simp [Value.ownBlock] at e; omega))
  exact hk.ext (fun k h => h)
theorem eqn_tri (w : World) : (binOp .eql 28 (.slice none 0 0) (.slice none 0 0)).run Tryz.prog w = .ok (.bool true) w := by kernel_rfl
theorem eqs_tri (a : Addr) (n cap : Nat) (w : World) : (binOp .eql 28 (.slice (some a) n cap) (.slice none 0 0)).run Tryz.prog w = .ok (.bool false) w := by kernel_rfl
set_option maxRecDepth 100000 in
set_option maxHeartbeats 4000000 in
theorem clone_tri (w : World) (v : Value) (l : List V3) (hv : Recs 3 enc3 w v l) (hl : l.length ≤ 1000000) : Calls Tryz.prog 20 #[v] w (ClTo 3 enc3 w l) := by
 obtain ⟨a, cap, rfl, h1, h2, h3⟩ := hv.shape
 have HV := Lib.hid hv
 cases a with
 | none =>
  obtain ⟨h4, rfl⟩ := h3 rfl
  obtain rfl : l = [] := List.eq_nil_of_length_eq_zero h4
  clear hv h1 h2 h3 h4 hl
  have e0 := eqn_tri w
  go_enter Tryz.func20, Tryz.ntmps20
  go_wp2_with fail
  first | go_ret | go_end0
  exact ⟨none, 0, 0, rfl, Recs.nil _, fun b e => by simp [Value.ownBlock] at e, Below.refl _ _⟩
 | some a =>
  have HC := Lib.hid (show (([] : List V3).length + l.length) * 24 ≤ 140737488355328 by simp; omega)
  have HC2 := Lib.hid (show ([] : List V3).length + l.length ≤ 140737488355328 by simp; omega)
  have HU := Lib.hid (hv.below (ext_alloc w (.cells #[] 52)) (Nat.le_refl _))
  have HO := Lib.hid (own_empty 3 enc3 w 52)
  have HB0 := Lib.hid (ext_alloc w (.cells #[] 52))
  have HS := Lib.hid (show w.heap.size ≤ (w.alloc (.cells #[] 52)).heap.size by simp)
  obtain ⟨n, hn⟩ : ∃ n, n = l.length := ⟨_, rfl⟩
  rw [← hn] at HU ⊢
  have HNL := Lib.hid hn
  clear hv h1 h2 h3 hl hn HV
  have e0 := eqs_tri a n cap w
  go_enter Tryz.func20, Tryz.ntmps20
  go_wp2_with (at_builtin; refine wpList_append_recs rfl (.tmp 5) (.tmp 6) 28 52 rfl (.agg #[.int .i64 0, .int .i64 0, .int .i64 0]) 24 w.heap.size tris_slice (.slice (some ⟨w.heap.size, 0, none⟩) 0 0) [] rfl HO.out (.slice (some a) n cap) l rfl HU.out HC.out HC2.out HS.out ?_; intro v9 w9 ho9 hg9 _; have HO9 := Lib.hid ho9; have HB9 := Lib.hid hg9; clear ho9 hg9)
  first | go_ret | go_end0
  obtain ⟨a9, c9, rfl⟩ := HO9.out.slice_
  refine ⟨_, _, _, rfl, HO9.out.recs len3, fun b e => (HO9.out.lt b e).1, ?_⟩
  have hk := (Keeps.of_below HB0.out (fun k => w.heap.size ≤ k) (fun k h _ => h)).grown HB9.out (fun k e => .inr (by simp [Value.ownBlock] at e; omega))
  exact hk.ext (fun k h => h)
theorem eqn_ball (w : World) : (binOp .eql 29 (.slice none 0 0) (.slice none 0 0)).run Tryz.prog w = .ok (.bool true) w := by kernel_rfl
theorem eqs_ball (a : Addr) (n cap : Nat) (w : World) : (binOp .eql 29 (.slice (some a) n cap) (.slice none 0 0)).run Tryz.prog w = .ok (.bool false) w := by kernel_rfl
set_option maxRecDepth 100000 in
set_option maxHeartbeats 4000000 in
theorem clone_ball (w : World) (v : Value) (l : List B4) (hv : Recs 4 enc4 w v l) (hl : l.length ≤ 1000000) : Calls Tryz.prog 21 #[v] w (ClTo 4 enc4 w l) := by
 obtain ⟨a, cap, rfl, h1, h2, h3⟩ := hv.shape
 have HV := Lib.hid hv
 cases a with
 | none =>
  obtain ⟨h4, rfl⟩ := h3 rfl
  obtain rfl : l = [] := List.eq_nil_of_length_eq_zero h4
  clear hv h1 h2 h3 h4 hl
  have e0 := eqn_ball w
  go_enter Tryz.func21, Tryz.ntmps21
  go_wp2_with fail
  first | go_ret | go_end0
  exact ⟨none, 0, 0, rfl, Recs.nil _, fun b e => by simp [Value.ownBlock] at e, Below.refl _ _⟩
 | some a =>
  have HC := Lib.hid (show (([] : List B4).length + l.length) * 32 ≤ 140737488355328 by simp; omega)
  have HC2 := Lib.hid (show ([] : List B4).length + l.length ≤ 140737488355328 by simp; omega)
  have HU := Lib.hid (hv.below (ext_alloc w (.cells #[] 51)) (Nat.le_refl _))
  have HO := Lib.hid (own_empty 4 enc4 w 51)
  have HB0 := Lib.hid (ext_alloc w (.cells #[] 51))
  have HS := Lib.hid (show w.heap.size ≤ (w.alloc (.cells #[] 51)).heap.size by simp)
  obtain ⟨n, hn⟩ : ∃ n, n = l.length := ⟨_, rfl⟩
  rw [← hn] at HU ⊢
  have HNL := Lib.hid hn
  clear hv h1 h2 h3 hl hn HV
  have e0 := eqs_ball a n cap w
  go_enter Tryz.func21, Tryz.ntmps21
  go_wp2_with (at_builtin; refine wpList_append_recs rfl (.tmp 5) (.tmp 6) 29 51 rfl (.agg #[.int .i64 0, .int .i64 0, .int .i64 0, .int .i64 0]) 32 w.heap.size balls_slice (.slice (some ⟨w.heap.size, 0, none⟩) 0 0) [] rfl HO.out (.slice (some a) n cap) l rfl HU.out HC.out HC2.out HS.out ?_; intro v9 w9 ho9 hg9 _; have HO9 := Lib.hid ho9; have HB9 := Lib.hid hg9; clear ho9 hg9)
  first | go_ret | go_end0
  obtain ⟨a9, c9, rfl⟩ := HO9.out.slice_
  refine ⟨_, _, _, rfl, HO9.out.recs len4, fun b e => (HO9.out.lt b e).1, ?_⟩
  have hk := (Keeps.of_below HB0.out (fun k => w.heap.size ≤ k) (fun k h _ => h)).grown HB9.out (fun k e => .inr (by simp [Value.ownBlock] at e; omega))
  exact hk.ext (fun k h => h)
end Go.Proofs.YtdaokkgenfpmhaaGreat.BvhC

/- The steps of the region of Build that clones the mesh. -/
set_option linter.unusedVariables false
set_option linter.unusedSimpArgs false
namespace Go.Proofs.YtdaokkgenfpmhaaGreat.BvhD
open Go Go.RowKit Go.Sort Go.Lib FixM Base Num FixW Qb Qt Qa Qf Qr Qz VecW VecV VecU LightQ LightC MeshM Rec MeshA MeshD MeshP HitM HitX BvhM BvhA BvhB BvhC
theorem build_run {P : Program} {e : Operand → Value} {o : Oper} {t : TypeId} {parts : Array (Nat × Operand)} (ho : o.op = .build t parts) {r : Array Value} (h : P.built t (parts.map fun (i, x) => (i, e x)).toList = some r) (w : World) : (execOp e o).run P w = .ok (.value (.agg r)) w := by
 unfold execOp
 simp only [ho, Sem.run_bind, run_build w t _ r h, Result.andThen_ok, Sem.run_pure]
theorem assign_run {P : Program} {e : Operand → Value} {o : Oper} {x : Operand} (ho : o.op = .assign x) (w : World) : (execOp e o).run P w = .ok (.value (e x)) w := by
 simp [execOp, ho, go_sem]
theorem ev_const (b : Act) (v : Value) : b.eval (.const v) = v := rfl
abbrev trow (v0 v1 v2 : Value) : Array Value := #[.bool true, v0, v1, v2, .slice none 0 0, .slice none 0 0, .int .i64 0]
/-- a new tree over its own mesh -/
def TreeNew (W : World) (m : Msh) (w : World) (v : Value) : Prop := ∃ W1 v0 v1 v2, Below W.heap.size W W1 ∧ IsMesh W1 (.agg #[v0, v1, v2]) m ∧ FrM W.heap.size (.agg #[v0, v1, v2]) ∧ v = .pointer (some ⟨W1.heap.size, 0, none⟩) ∧ Below (W1.heap.size + 1) (W1.alloc (.cells (trow v0 v1 v2) 65)) w
def phiB (W : World) (gP : Nat) (s0 s1 s2 : Value) (m : Msh) : Nat → World → Value → Prop
 | 0, _, v => v = .pointer (some ⟨gP, 0, none⟩)
 | 1, _, v => v = s0
 | 2, w, v => ∃ a n cap, v = .slice a n cap ∧ Recs 3 enc3 w v m.ps ∧ Fr W.heap.size v
 | 3, _, v => v = .pointer (some ⟨gP, 1, none⟩)
 | 4, _, v => v = s1
 | 5, w, v => ∃ a n cap, v = .slice a n cap ∧ Recs 3 enc3 w v m.ts ∧ Fr W.heap.size v
 | 6, _, v => v = .pointer (some ⟨gP, 2, none⟩)
 | 7, _, v => v = s2
 | 8, w, v => ∃ a n cap, v = .slice a n cap ∧ Recs 4 enc4 w v m.bs ∧ Fr W.heap.size v
 | 9, w, v => ∃ a0 n0 c0 a1 n1 c1 a2 n2 c2, v = .agg #[.slice a0 n0 c0, .slice a1 n1 c1, .slice a2 n2 c2] ∧ IsMesh w v m ∧ FrM W.heap.size v
 | 10, w, v => ∃ a0 n0 c0 a1 n1 c1 a2 n2 c2, v = .agg (trow (.slice a0 n0 c0) (.slice a1 n1 c1) (.slice a2 n2 c2)) ∧ IsMesh w (.agg #[.slice a0 n0 c0, .slice a1 n1 c1, .slice a2 n2 c2]) m ∧ FrM W.heap.size (.agg #[.slice a0 n0 c0, .slice a1 n1 c1, .slice a2 n2 c2])
 | _, w, v => TreeNew W m w v
theorem TreeNew.below {W w w' : World} {m : Msh} {v : Value} (h : TreeNew W m w v) (hb : Below w.heap.size w w') : TreeNew W m w' v := by
 obtain ⟨W1, v0, v1, v2, h1, h2, hf, h3, h4⟩ := h
 exact ⟨W1, v0, v1, v2, h1, h2, hf, h3, h4.trans (hb.mono (by have := h4.size; simpa using this))⟩
theorem phiB_mono (W : World) (gP : Nat) (s0 s1 s2 : Value) (m : Msh) (k : Nat) (v : Value) (w1 w2 : World) (h : phiB W gP s0 s1 s2 m k w1 v) (hb : Below w1.heap.size w1 w2) : phiB W gP s0 s1 s2 m k w2 v := by
 match k with
 | 0 => exact h
 | 1 => exact h
 | 2 => obtain ⟨a, n, c, e, h, hf⟩ := h; exact ⟨a, n, c, e, h.below hb (Nat.le_refl _), hf⟩
 | 3 => exact h
 | 4 => exact h
 | 5 => obtain ⟨a, n, c, e, h, hf⟩ := h; exact ⟨a, n, c, e, h.below hb (Nat.le_refl _), hf⟩
 | 6 => exact h
 | 7 => exact h
 | 8 => obtain ⟨a, n, c, e, h, hf⟩ := h; exact ⟨a, n, c, e, h.below hb (Nat.le_refl _), hf⟩
 | 9 => obtain ⟨a0, n0, c0, a1, n1, c1, a2, n2, c2, e, h, hf⟩ := h; exact ⟨a0, n0, c0, a1, n1, c1, a2, n2, c2, e, h.below hb, hf⟩
 | 10 => obtain ⟨a0, n0, c0, a1, n1, c1, a2, n2, c2, e, h, hf⟩ := h; exact ⟨a0, n0, c0, a1, n1, c1, a2, n2, c2, e, h.below hb, hf⟩
 | k + 11 => exact TreeNew.below h hb
theorem box_run (w : World) (a0 : Option Addr) (n0 c0 : Nat) (a1 : Option Addr) (n1 c1 : Nat) (a2 : Option Addr) (n2 c2 : Nat) : (Instr.box 65 (.agg (trow (.slice a0 n0 c0) (.slice a1 n1 c1) (.slice a2 n2 c2)))).run Tryz.prog w = .ok (.pointer (some ⟨w.heap.size, 0, none⟩)) (w.alloc (.cells (trow (.slice a0 n0 c0) (.slice a1 n1 c1) (.slice a2 n2 c2)) 65)) := by kernel_rfl
theorem box_run2 {P : Program} {e : Operand → Value} {o : Oper} {T : TypeId} {x : Operand} (ho : o.op = .box T x) {u : Value} {w w' : World} (h : (Instr.box T (e x)).run P w = .ok u w') : (execOp e o).run P w = .ok (.value u) w' := by
 simp [execOp, ho, h, Result.andThen]
theorem fa0_run {e : Operand → Value} {o : Oper} {x : Operand} (ho : o.op = .fieldAddr 31 x 0) (g : Nat) (hv : e x = .pointer (some ⟨g, 0, none⟩)) (w : World) : (execOp e o).run Tryz.prog w = .ok (.value (.pointer (some ⟨g, 0, none⟩))) w := by
 unfold execOp
 simp only [ho, hv]
 kernel_rfl
theorem fa1_run {e : Operand → Value} {o : Oper} {x : Operand} (ho : o.op = .fieldAddr 31 x 1) (g : Nat) (hv : e x = .pointer (some ⟨g, 0, none⟩)) (w : World) : (execOp e o).run Tryz.prog w = .ok (.value (.pointer (some ⟨g, 1, none⟩))) w := by
 unfold execOp
 simp only [ho, hv]
 kernel_rfl
theorem fa2_run {e : Operand → Value} {o : Oper} {x : Operand} (ho : o.op = .fieldAddr 31 x 2) (g : Nat) (hv : e x = .pointer (some ⟨g, 0, none⟩)) (w : World) : (execOp e o).run Tryz.prog w = .ok (.value (.pointer (some ⟨g, 2, none⟩))) w := by
 unfold execOp
 simp only [ho, hv]
 kernel_rfl
theorem agg_v (w : World) : (isAgg 27).run Tryz.prog w = .ok false w := by kernel_rfl
theorem ldv_run {e : Operand → Value} {o : Oper} {x : Operand} (ho : o.op = .load 27 x) (g k : Nat) (hx : e x = .pointer (some ⟨g, k, none⟩)) {w : World} {v : Value} (hc : w.cell? ⟨g, k, none⟩ = some v) : (execOp e o).run Tryz.prog w = .ok (.value v) w := by
 unfold execOp
 simp [ho, hx, hc, agg_v, go_sem]
theorem agg_t (w : World) : (isAgg 28).run Tryz.prog w = .ok false w := by kernel_rfl
theorem ldt_run {e : Operand → Value} {o : Oper} {x : Operand} (ho : o.op = .load 28 x) (g k : Nat) (hx : e x = .pointer (some ⟨g, k, none⟩)) {w : World} {v : Value} (hc : w.cell? ⟨g, k, none⟩ = some v) : (execOp e o).run Tryz.prog w = .ok (.value v) w := by
 unfold execOp
 simp [ho, hx, hc, agg_t, go_sem]
theorem agg_b (w : World) : (isAgg 29).run Tryz.prog w = .ok false w := by kernel_rfl
theorem ldb_run {e : Operand → Value} {o : Oper} {x : Operand} (ho : o.op = .load 29 x) (g k : Nat) (hx : e x = .pointer (some ⟨g, k, none⟩)) {w : World} {v : Value} (hc : w.cell? ⟨g, k, none⟩ = some v) : (execOp e o).run Tryz.prog w = .ok (.value v) w := by
 unfold execOp
 simp [ho, hx, hc, agg_b, go_sem]
theorem ints : NumSlice Tryz.prog 22 3 .i64 8 := numSlice Tryz.underlying22 (by kernel_rfl)
/-- the boxes and the order under way -/
structure Lp (W0 wr : World) (base gM gT : Nat) (vb vo v0 v1 v2 : Value) (mo : Int) (bx : List Bx) (l : List Nat) : Prop where
 m : wr.heap[gM]? = some (.cells #[.pointer (some ⟨gT, 0, none⟩), vb, .int .i64 0, .int .i64 mo] 69)
 t : wr.heap[gT]? = some (.cells #[.bool true, v0, v1, v2, .slice none 0 0, vo, .int .i64 0] 65)
 b : RecsOwn 6 encB 72 base wr vb bx
 o : Own .i64 9223372036854775808 3 base wr vo l
 hb : Below base W0 wr
 low : base ≤ gM ∧ base ≤ gT ∧ gM ≠ gT ∧ base ≤ wr.heap.size
 nb : ∀ g, vb.ownBlock = some g → g ≠ gM ∧ g ≠ gT ∧ vo.ownBlock ≠ some g
 no : ∀ g, vo.ownBlock = some g → g ≠ gM ∧ g ≠ gT
section
variable {W0 wr w' w1 : World} {base gM gT : Nat} {vb vo v0 v1 v2 v' : Value} {mo : Int} {bx : List Bx} {l k : List Nat} {q : Bx}
theorem Lp.below (h : Lp W0 wr base gM gT vb vo v0 v1 v2 mo bx l) (hb : Below wr.heap.size wr w') : Lp W0 w' base gM gT vb vo v0 v1 v2 mo bx l where
 m := vec_step h.m hb
 t := vec_step h.t hb
 b := h.b.below hb (Nat.le_refl _)
 o := h.o.below hb (Nat.le_refl _)
 hb := h.hb.trans (hb.mono h.low.2.2.2)
 low := ⟨h.low.1, h.low.2.1, h.low.2.2.1, Nat.le_trans h.low.2.2.2 hb.size⟩
 nb := h.nb
 no := h.no
theorem Lp.box (h : Lp W0 wr base gM gT vb vo v0 v1 v2 mo bx l) (hk : Keeps (fun k => vb.ownBlock = some k) wr w1) (ho : RecsOwn 6 encB 72 base w1 v' (bx ++ [q])) (hv : v'.ownBlock = vb.ownBlock ∨ ∀ b, v'.ownBlock = some b → wr.heap.size ≤ b) :
  Lp W0 (w1.setCell ⟨gM, 1, none⟩ v') base gM gT v' vo v0 v1 v2 mo (bx ++ [q]) l := by
 have hk2 := (Keeps.refl (fun k => k = gM) w1).setCell gM 1 v' (.inl rfl)
 have nn' : ∀ b, v'.ownBlock = some b → b ≠ gM ∧ b ≠ gT ∧ vo.ownBlock ≠ some b := by
  intro b hb
  rcases hv with e | e
  ·
   exact h.nb b (e ▸ hb)
  ·
   have h1 := e b hb
   have h2 := Base.lt_of_heap h.m
   have h3 := Base.lt_of_heap h.t
   exact ⟨by omega, by omega, fun e2 => by have := (h.o.row.lt b e2).2; omega⟩
 refine ⟨?_, ?_, ho.frame hk2 (fun b e1 e2 => (nn' b e1).1 e2), (h.o.frame hk (fun b e1 e2 => (h.nb b e2).2.2 e1)).frame hk2 (fun b e1 e2 => (h.no b e1).1 e2), (h.hb.trans (hk.below base h.low.2.2.2 (fun k e => (h.b.lt k e).1))).trans (hk2.below base (Nat.le_trans h.low.2.2.2 hk.size) (fun k e => by have := h.low.1; omega)), ⟨h.low.1, h.low.2.1, h.low.2.2.1, Nat.le_trans h.low.2.2.2 (Nat.le_trans hk.size hk2.size)⟩, nn', h.no⟩
 ·
  rw [heap_setCell_same _ _ _ _ _ _ (keep_cell hk h.m (fun e => (h.nb gM e).1 rfl))]; rfl
 ·
  exact keep_cell hk2 (keep_cell hk h.t (fun e => (h.nb gT e).2.1 rfl)) (Ne.symm h.low.2.2.1)
theorem Lp.ord (h : Lp W0 wr base gM gT vb vo v0 v1 v2 mo bx l) (hg : wr.grownBy w1 vo.ownBlock) (ho : Own .i64 9223372036854775808 3 base w1 v' (l ++ k)) (hv : v'.ownBlock = vo.ownBlock ∨ ∀ b, v'.ownBlock = some b → wr.heap.size ≤ b) :
  Lp W0 (w1.setCell ⟨gT, 5, none⟩ v') base gM gT vb v' v0 v1 v2 mo bx (l ++ k) := by
 have hk : Keeps (fun k => vo.ownBlock = some k) wr w1 := (Keeps.refl _ wr).grown hg (fun k e => .inl e)
 have hk2 := (Keeps.refl (fun k => k = gT) w1).setCell gT 5 v' (.inl rfl)
 have nn' : ∀ b, v'.ownBlock = some b → b ≠ gM ∧ b ≠ gT := by
  intro b hb
  rcases hv with e | e
  ·
   exact h.no b (e ▸ hb)
  ·
   have h1 := e b hb
   have h2 := Base.lt_of_heap h.m
   have h3 := Base.lt_of_heap h.t
   exact ⟨by omega, by omega⟩
 have nb' : ∀ b, vb.ownBlock = some b → b ≠ gM ∧ b ≠ gT ∧ v'.ownBlock ≠ some b := by
  intro b hb
  refine ⟨(h.nb b hb).1, (h.nb b hb).2.1, fun e2 => ?_⟩
  rcases hv with e | e
  ·
   exact (h.nb b hb).2.2 (e ▸ e2)
  ·
   have h1 := e b e2
   have := (h.b.lt b hb).2
   omega
 refine ⟨?_, ?_, (h.b.frame hk (fun b e1 e2 => (h.nb b e1).2.2 e2)).frame hk2 (fun b e1 e2 => (h.nb b e1).2.1 e2), ho.frame hk2 (fun b e1 e2 => (nn' b e1).2 e2), (h.hb.trans (hk.below base h.low.2.2.2 (fun k e => (h.o.row.lt k e).1))).trans (hk2.below base (Nat.le_trans h.low.2.2.2 hk.size) (fun k e => by have := h.low.2.1; omega)), ⟨h.low.1, h.low.2.1, h.low.2.2.1, Nat.le_trans h.low.2.2.2 (Nat.le_trans hk.size hk2.size)⟩, nb', nn'⟩
 ·
  exact keep_cell hk2 (keep_cell hk h.m (fun e => (h.no gM e).1 rfl)) h.low.2.2.1
 ·
  rw [heap_setCell_same _ _ _ _ _ _ (keep_cell hk h.t (fun e => (h.no gT e).2 rfl))]; rfl
end
end Go.Proofs.YtdaokkgenfpmhaaGreat.BvhD

/- The walk of layer 14's Build. -/
set_option linter.unusedVariables false
set_option linter.unusedSimpArgs false
namespace Go.Proofs.YtdaokkgenfpmhaaGreat.BvhE
open Go Go.RowKit Go.Sort Go.Lib FixM Base Num FixW Qb Qt Qa Qf Qr Qz VecW VecV VecU LightQ LightC MeshM Rec MeshA MeshC MeshD MeshP HitM HitX BvhM BvhA BvhB BvhS BvhC BvhD BvhU BvhW BvhX Qx HitS
/-- what Build leaves -/
def cntM (m : Msh) : Nat := m.ts.length + m.bs.length
def flatM (m : Msh) : List Nd := if cntM m = 0 then [] else flatN m (wholeT m) 0 0
def ordM (m : Msh) : List Nat := if cntM m = 0 then [] else leavesT (wholeT m)
def deepM (m : Msh) : Nat := if cntM m = 0 then 0 else deepT (wholeT m)
def stepsM (m : Msh) : Nat := if cntM m = 0 then 0 else stepsT (wholeT m)
structure TreeAt (w : World) (g : Nat) (m : Msh) : Prop where
 is_ : ∃ v0 v1 v2 vn vo, w.heap[g]? = some (.cells #[.bool true, v0, v1, v2, vn, vo, .int .i64 (deepM m : Int)] 65) ∧ IsMesh w (.agg #[v0, v1, v2]) m ∧ Recs 10 encN w vn (flatM m) ∧ Nums .i64 9223372036854775808 w vo (ordM m)
/-- what Build leaves lies where nothing lay -/
structure TreeFar (B : Nat) (w : World) (g : Nat) (m : Msh) : Prop where
 is_ : ∃ v0 v1 v2 vn vo, w.heap[g]? = some (.cells #[.bool true, v0, v1, v2, vn, vo, .int .i64 (deepM m : Int)] 65) ∧ IsMesh w (.agg #[v0, v1, v2]) m ∧ Recs 10 encN w vn (flatM m) ∧ Nums .i64 9223372036854775808 w vo (ordM m)
  ∧ B ≤ g ∧ FrM B (.agg #[v0, v1, v2]) ∧ Fr B vn ∧ Fr B vo
theorem TreeFar.at {B : Nat} {w : World} {g : Nat} {m : Msh} (h : TreeFar B w g m) : TreeAt w g m := by
 obtain ⟨v0, v1, v2, vn, vo, h1, h2, h3, h4, -⟩ := h
 exact ⟨⟨v0, v1, v2, vn, vo, h1, h2, h3, h4⟩⟩
def BuildTo (w : World) (m : Msh) (steps : Int) (e : Ending) (w' : World) : Prop :=
 Below w.heap.size w w' ∧ (if checkF m ≠ 0 then e = .returned (.tuple #[.pointer none, .int .i64 0, .int .i64 (checkF m)])
  else if steps < (stepsM m : Int) then e = .returned (.tuple #[.pointer none, .int .i64 0, .int .i64 15])
  else ∃ g, e = .returned (.tuple #[.pointer (some ⟨g, 0, none⟩), .int .i64 (stepsM m : Int), .int .i64 0]) ∧ TreeFar w.heap.size w' g m ∧ w.heap.size ≤ g)
theorem len_of {m : Msh} (h : checkF m = 0) : m.ps.length ≤ 1000000 ∧ m.ts.length ≤ 1000000 ∧ m.bs.length ≤ 1000000 := by
 unfold checkF at h
 by_cases h1 : tooF m
 ·
  rw [if_pos h1] at h; omega
 ·
  unfold tooF at h1; omega
theorem cnt_of {m : Msh} (h : checkF m = 0) : m.ts.length + m.bs.length ≤ 4096 := by
 unfold checkF at h
 by_cases h1 : tooF m
 ·
  rw [if_pos h1] at h; omega
 ·
  unfold tooF at h1; omega
theorem boxes_next (m : Msh) (k : Nat) (h : k < m.ts.length + m.bs.length) : (boxesM m).take (k + 1) = (boxesM m).take k ++ [boxF m (k : Int)] := by
 rw [List.take_add_one]
 congr 1
 unfold boxesM
 simp [h]
theorem boxes_all (m : Msh) : (boxesM m).take (m.ts.length + m.bs.length) = boxesM m := List.take_of_length_le (by simp [boxesM])
theorem _root_.Go.Proofs.YtdaokkgenfpmhaaGreat.Base.Own.slice_len {k : IntKind} {N E base : Nat} {w : World} {a : Option Addr} {n c : Nat} {l : List Nat} (h : Own k N E base w (.slice a n c) l) : n = l.length := by
 obtain ⟨a', c', e, -⟩ := h.nums.shape
 simp only [Value.slice.injEq] at e
 exact e.2.1
theorem seg_all (n : Nat) : segL (List.range n) 0 n = List.range n := by unfold segL; rw [List.drop_zero, Nat.sub_zero]; exact List.take_of_length_le (by simp)
theorem put_all (l s : List Nat) (h : s.length = l.length) : putSeg l 0 s = s := by unfold putSeg; rw [List.take_zero, List.nil_append, Nat.zero_add, h, List.drop_length, List.append_nil]
def startS (m : Msh) : Sta := ⟨[], List.range (cntM m), 0, 0⟩
theorem added (m : Msh) (hc : cntM m ≠ 0) (mo : Int) :
  (¬ mo < (stepsM m : Int) → addP (boxesM m) mo (cntM m) 0 (cntM m) 1 (startS m) = ⟨flatM m, ordM m, deepM m, stepsM m⟩) ∧ (mo < (stepsM m : Int) → mo < (((addP (boxesM m) mo (cntM m) 0 (cntM m) 1 (startS m)).st : Nat) : Int)) := by
 have h := add_tree m mo (cntM m) 0 (cntM m) 1 (startS m) (Nat.le_refl _) (by omega) (by show _ ≤ (List.range _).length; simp)
 have e : segL (startS m).l 0 (cntM m) = allL m := seg_all _
 rw [e] at h
 have eT : treeF m (cntM m) (allL m) = wholeT m := rfl
 rw [eT] at h
 have e1 : (startS m).ns = [] := rfl
 have e2 : (startS m).st = 0 := rfl
 have e3 : (startS m).dp = 0 := rfl
 have e4 : (startS m).l = List.range (cntM m) := rfl
 have hd := deep_pos (wholeT m)
 have hg := whole_good m hc
 have hl : (leavesT (wholeT m)).length = cntM m := by rw [leaves_length _ hg, whole_l]; simp [allL]; rfl
 rw [e1, e2, e3, e4, put_all _ _ (by rw [hl]; simp), Nat.zero_add, List.nil_append, show max 0 (1 + deepT (wholeT m) - 1) = deepT (wholeT m) by omega] at h
 unfold flatM ordM deepM stepsM
 rw [if_neg hc, if_neg hc, if_neg hc, if_neg hc]
 exact ⟨fun hs => h.1 (by omega), h.2⟩
theorem tree_done {WT wr : World} {gM gT : Nat} {vb u0 u1 u2 vn : Value} {mo : Int} {blk cap : Nat} {m : Msh} {s : Sta} (h : Bd WT wr gT gM gT vb u0 u1 u2 mo blk cap (boxesM m) vn s) (hs : s = ⟨flatM m, ordM m, deepM m, stepsM m⟩) (hm : IsMesh WT (.agg #[u0, u1, u2]) m) (hg : gT = WT.heap.size) {B : Nat} (hB : B ≤ gT) (hF : FrM B (.agg #[u0, u1, u2])) : TreeFar B wr gT m := by
 subst hs
 refine ⟨u0, u1, u2, vn, _, h.mt.t, hm.below (by rw [← hg]; exact h.hb), h.ns.recs lenN, h.mt.o.nums, hB, hF, fun b e => Nat.le_trans hB (h.ns.lt b e).1, fun b e => Nat.le_trans hB (h.mt.o.row.lt b e).1⟩
theorem tree_none {WT wr : World} {gM gT : Nat} {vb vo u0 u1 u2 : Value} {mo : Int} {m : Msh} {bx : List Bx} (h : Lp WT wr gT gM gT vb vo u0 u1 u2 mo bx []) (hc : cntM m = 0) (hm : IsMesh WT (.agg #[u0, u1, u2]) m) (hg : gT = WT.heap.size) {B : Nat} (hB : B ≤ gT) (hF : FrM B (.agg #[u0, u1, u2])) : TreeFar B wr gT m := by
 refine ⟨u0, u1, u2, .slice none 0 0, vo, ?_, hm.below (by rw [← hg]; exact h.hb), ?_, ?_, hB, hF, fun b e => by simp [Value.ownBlock] at e, fun b e => Nat.le_trans hB (h.o.row.lt b e).1⟩
 ·
  have := h.t; unfold deepM; rw [if_pos hc]; exact this
 ·
  unfold flatM; rw [if_pos hc]; exact Recs.nil _
 ·
  unfold ordM; rw [if_pos hc]; exact h.o.nums
theorem start_bd {WT wr : World} {gM gT : Nat} {vb u0 u1 u2 : Value} {mo : Int} {blk cap : Nat} {m : Msh} (h : Lp WT wr gT gM gT vb (.slice (some ⟨blk, 0, none⟩) (cntM m) cap) u0 u1 u2 mo (boxesM m) (List.range (cntM m))) : Bd WT wr gT gM gT vb u0 u1 u2 mo blk cap (boxesM m) (.slice none 0 0) (startS m) := by
 have hl : (startS m).l.length = cntM m := by show (List.range _).length = _; simp
 refine ⟨⟨h.m, by rw [hl]; exact h.t, h.b.recs lenB, by rw [hl]; exact h.o, fun e => (h.no blk rfl).1 e.symm, fun e => (h.no blk rfl).2 e.symm, fun e => (h.nb blk e).2.2 rfl⟩, RecsOwn.nil _ _ _, h.hb, h.low, fun b e => by simp [Value.ownBlock] at e, ⟨fun e => (h.nb gM e).1 rfl, fun e => (h.nb gT e).2.1 rfl⟩, fun b e => (h.b.lt b e).2⟩
theorem start_side (m : Msh) (hc : cntM m ≠ 0) (hl : cntM m ≤ 4096) : Side (boxesM m) (cntM m) 0 (cntM m) 1 (startS m) := by
 have e1 : (startS m).ns = [] := rfl
 have e2 : (startS m).st = 0 := rfl
 have e3 : (startS m).dp = 0 := rfl
 have e4 : (startS m).l = List.range (cntM m) := rfl
 have hq : cntM m * cntM m ≤ 4096 * 4096 := Nat.mul_le_mul hl hl
 unfold Side
 rw [e1, e2, e3, e4, List.length_range, Nat.sub_zero]
 refine ⟨fun i hi => ?_, Nat.le_refl _, by omega, Nat.le_refl _, by omega, by simp; omega, ?_, by omega, by omega⟩
 ·
  rw [List.mem_range] at hi; unfold boxesM; simp; exact hi
 ·
  generalize cntM m * cntM m = X at *; omega
theorem ok_boxes (m : Msh) (ok : m.ok) : ∀ b ∈ boxesM m, HitM.Bx.ok b := by
 intro b hb
 unfold boxesM at hb
 obtain ⟨i, -, rfl⟩ := List.mem_map.1 hb
 exact ok_box m ok _
theorem in_small (k : Nat) (h : k < 4096) : In (k : Int) := by unfold In; omega
theorem built_tree (a0 : Option Addr) (n0 c0 : Nat) (a1 : Option Addr) (n1 c1 : Nat) (a2 : Option Addr) (n2 c2 : Nat) : Tryz.prog.built 65 [(0, .bool true), (1, .agg #[.slice a0 n0 c0, .slice a1 n1 c1, .slice a2 n2 c2])] = some (trow (.slice a0 n0 c0) (.slice a1 n1 c1) (.slice a2 n2 c2)) := by kernel_rfl
theorem built_mesh (a0 : Option Addr) (n0 c0 : Nat) (a1 : Option Addr) (n1 c1 : Nat) (a2 : Option Addr) (n2 c2 : Nat) : Tryz.prog.built 31 [(0, .slice a0 n0 c0), (1, .slice a1 n1 c1), (2, .slice a2 n2 c2)] = some #[.slice a0 n0 c0, .slice a1 n1 c1, .slice a2 n2 c2] := by kernel_rfl
set_option maxRecDepth 100000 in
set_option maxHeartbeats 16000000 in
theorem build_any (v : Value) (m : Msh) (w : World) (hm : IsMesh w v m) (ok : m.ok) (steps : Int) : Calls Tryz.prog 5 #[v, .int .i64 steps] w (BuildTo w m steps) := by
 obtain ⟨a0, c0, a1, c1, a2, c2, rfl, -⟩ := hm.open_
 have HMO := Lib.hid (And.intro hm ok)
 have hA := heap_alloc_new w (.cells #[.slice a0 m.ps.length c0, .slice a1 m.ts.length c1, .slice a2 m.bs.length c2] 31)
 have hB := ext_alloc w (.cells #[.slice a0 m.ps.length c0, .slice a1 m.ts.length c1, .slice a2 m.bs.length c2] 31)
 obtain ⟨n0, hn0⟩ : ∃ x, x = m.ps.length := ⟨_, rfl⟩
 obtain ⟨n1, hn1⟩ : ∃ x, x = m.ts.length := ⟨_, rfl⟩
 obtain ⟨n2, hn2⟩ : ∃ x, x = m.bs.length := ⟨_, rfl⟩
 rw [← hn0, ← hn1, ← hn2] at hA hB HMO ⊢
 have HNS := Lib.hid (And.intro hn0 (And.intro hn1 hn2))
 clear hn0 hn1 hn2 hm ok
 obtain ⟨W, hW⟩ : ∃ ww, ww = w.alloc (.cells #[.slice a0 n0 c0, .slice a1 n1 c1, .slice a2 n2 c2] 31) := ⟨_, rfl⟩
 rw [← hW] at hA hB
 have HP := Lib.hid hA
 have HB := Lib.hid hB
 have HME := Lib.hid (HMO.out.1.below hB)
 have CC := Lib.hid (check_any _ m W HME.out)
 have HWW := Lib.hid hW
 have HTO := Lib.hid (show BuildTo w m steps = fun e w' => Below w.heap.size w w' ∧ (if checkF m ≠ 0 then e = .returned (.tuple #[.pointer none, .int .i64 0, .int .i64 (checkF m)]) else if steps < (stepsM m : Int) then e = .returned (.tuple #[.pointer none, .int .i64 0, .int .i64 15]) else ∃ g, e = .returned (.tuple #[.pointer (some ⟨g, 0, none⟩), .int .i64 (stepsM m : Int), .int .i64 0]) ∧ TreeFar w.heap.size w' g m ∧ w.heap.size ≤ g) from rfl)
 obtain ⟨QQ, hQQ⟩ : ∃ Q, Q = BuildTo w m steps := ⟨_, rfl⟩
 obtain ⟨cd, hcd⟩ : ∃ c, c = checkF m := ⟨_, rfl⟩
 rw [← hQQ] at HTO ⊢
 rw [← hcd] at HTO CC
 have HCD := Lib.hid hcd
 clear hA hB hW hQQ hcd
 go_enter Tryz.func5, Tryz.ntmps5
 go_upto_region 1 with (fail)
 rw [← HWW.out]
 clear HWW
 have p0 := cell_row HP.out 0 _ rfl
 have p1 := cell_row HP.out 1 _ rfl
 have p2 := cell_row HP.out 2 _ rfl
 go_wp2_with fail
 refine CC.out.mono ?_
 rintro e W1 ⟨rfl, hb⟩
 have HP1 := Lib.hid (vec_step HP.out hb)
 have HME1 := Lib.hid (HME.out.below hb)
 have HB1 := Lib.hid (HB.out.trans (hb.mono HB.out.size))
 have HGP := Lib.hid (Base.lt_of_heap HP1.out)
 clear hb p0 p1 p2 CC HP HB HME
 clear W
 generalize hgP : w.heap.size = gP at HP1 HGP
 by_cases hc : cd = 0
 ·
  subst hc
  have HLEN := Lib.hid (len_of HCD.out.symm)
  obtain ⟨_, _, _, eM, hr0, hr1, hr2⟩ := HME1.out.ex
  simp only [Value.agg.injEq, Array.mk.injEq, List.cons.injEq, and_true] at eM
  obtain ⟨rfl, rfl, rfl⟩ := eM
  have HR0 := Lib.hid hr0
  have HR1 := Lib.hid hr1
  have HR2 := Lib.hid hr2
  clear hr0 hr1 hr2
  go_upto_region 4 with (fail)
  refine wp_region_rel 84 (phiB W1 gP (.slice a0 n0 c0) (.slice a1 n1 c1) (.slice a2 n2 c2) m) (by kernel_rfl) rfl (by kernel_rfl) (phiB_mono _ _ _ _ _ _) ?hst ?_
  case hst =>
   refine ⟨?q0, ?q1, ?q2, ?q3, ?q4, ?q5, ?q6, ?q7, ?q8, ?q9, ?q10, ?q11, ?q12, trivial⟩
   case q0 =>
    intro b w1 hb hd hk
    have e2 : b.eval (.tmp 2) = .pointer (some ⟨gP, 0, none⟩) := by
     have := hk 2 (nodst (by kernel_rfl))
     simp [Act.eval, Array.getD_eq_getD_getElem?, this]
    rw [fa0_run rfl gP e2 w1]
    exact ⟨rfl, Below.refl _ _⟩
   case q1 =>
    intro b w1 hb hd hk
    have e2 : b.eval (.tmp 16) = .pointer (some ⟨gP, 0, none⟩) := hd 16 (by decide) 0 rfl
    rw [ldv_run rfl gP 0 e2 ((hb.cell (p := ⟨gP, 0, none⟩) HGP.out).trans (cell_row HP1.out 0 _ rfl))]
    exact ⟨rfl, Below.refl _ _⟩
   case q2 =>
    intro b w1 hb hd hk
    have e2 : b.eval (.tmp 17) = .slice a0 n0 c0 := hd 17 (by decide) 1 rfl
    rw [call_run (f := 19) (fn := Tryz.f19) rfl rfl Tryz.func19 rfl rfl w1]
    simp only [List.map_toArray, List.map_cons, List.map_nil, e2]
    show Calls Tryz.prog _ _ w1 _
    refine (clone_vec w1 _ m.ps (HR0.out.below hb (Nat.le_refl _)) HLEN.out.1).mono ?_
    rintro e w2 ⟨a, n, cap, rfl, hr, hf, hb2⟩
    exact ⟨_, rfl, ⟨a, n, cap, rfl, hr, fun b e => Nat.le_trans hb.size (hf b e)⟩, hb2⟩
   case q3 =>
    intro b w1 hb hd hk
    have e2 : b.eval (.tmp 2) = .pointer (some ⟨gP, 0, none⟩) := by
     have := hk 2 (nodst (by kernel_rfl))
     simp [Act.eval, Array.getD_eq_getD_getElem?, this]
    rw [fa1_run rfl gP e2 w1]
    exact ⟨rfl, Below.refl _ _⟩
   case q4 =>
    intro b w1 hb hd hk
    have e2 : b.eval (.tmp 19) = .pointer (some ⟨gP, 1, none⟩) := hd 19 (by decide) 3 rfl
    rw [ldt_run rfl gP 1 e2 ((hb.cell (p := ⟨gP, 1, none⟩) HGP.out).trans (cell_row HP1.out 1 _ rfl))]
    exact ⟨rfl, Below.refl _ _⟩
   case q5 =>
    intro b w1 hb hd hk
    have e2 : b.eval (.tmp 20) = .slice a1 n1 c1 := hd 20 (by decide) 4 rfl
    rw [call_run (f := 20) (fn := Tryz.f20) rfl rfl Tryz.func20 rfl rfl w1]
    simp only [List.map_toArray, List.map_cons, List.map_nil, e2]
    show Calls Tryz.prog _ _ w1 _
    refine (clone_tri w1 _ m.ts (HR1.out.below hb (Nat.le_refl _)) HLEN.out.2.1).mono ?_
    rintro e w2 ⟨a, n, cap, rfl, hr, hf, hb2⟩
    exact ⟨_, rfl, ⟨a, n, cap, rfl, hr, fun b e => Nat.le_trans hb.size (hf b e)⟩, hb2⟩
   case q6 =>
    intro b w1 hb hd hk
    have e2 : b.eval (.tmp 2) = .pointer (some ⟨gP, 0, none⟩) := by
     have := hk 2 (nodst (by kernel_rfl))
     simp [Act.eval, Array.getD_eq_getD_getElem?, this]
    rw [fa2_run rfl gP e2 w1]
    exact ⟨rfl, Below.refl _ _⟩
   case q7 =>
    intro b w1 hb hd hk
    have e2 : b.eval (.tmp 22) = .pointer (some ⟨gP, 2, none⟩) := hd 22 (by decide) 6 rfl
    rw [ldb_run rfl gP 2 e2 ((hb.cell (p := ⟨gP, 2, none⟩) HGP.out).trans (cell_row HP1.out 2 _ rfl))]
    exact ⟨rfl, Below.refl _ _⟩
   case q8 =>
    intro b w1 hb hd hk
    have e2 : b.eval (.tmp 23) = .slice a2 n2 c2 := hd 23 (by decide) 7 rfl
    rw [call_run (f := 21) (fn := Tryz.f21) rfl rfl Tryz.func21 rfl rfl w1]
    simp only [List.map_toArray, List.map_cons, List.map_nil, e2]
    show Calls Tryz.prog _ _ w1 _
    refine (clone_ball w1 _ m.bs (HR2.out.below hb (Nat.le_refl _)) HLEN.out.2.2).mono ?_
    rintro e w2 ⟨a, n, cap, rfl, hr, hf, hb2⟩
    exact ⟨_, rfl, ⟨a, n, cap, rfl, hr, fun b e => Nat.le_trans hb.size (hf b e)⟩, hb2⟩
   case q9 =>
    intro b w1 hb hd hk
    obtain ⟨x0, y0, z0, e0, r0, f0⟩ := hd 18 (by decide) 2 rfl
    obtain ⟨x1, y1, z1, e1, r1, f1⟩ := hd 21 (by decide) 5 rfl
    obtain ⟨x2, y2, z2, e2, r2, f2⟩ := hd 24 (by decide) 8 rfl
    rw [build_run rfl (r := #[.slice x0 y0 z0, .slice x1 y1 z1, .slice x2 y2 z2]) (by simp only [List.map_toArray, List.map_cons, List.map_nil, e0, e1, e2]; exact built_mesh _ _ _ _ _ _ _ _ _) w1]
    rw [e0] at r0 f0
    rw [e1] at r1 f1
    rw [e2] at r2 f2
    exact ⟨⟨_, _, _, _, _, _, _, _, _, rfl, ⟨⟨_, _, _, rfl, r0, r1, r2⟩⟩, frM f0 f1 f2⟩, Below.refl _ _⟩
   case q10 =>
    intro b w1 hb hd hk
    obtain ⟨x0, y0, z0, x1, y1, z1, x2, y2, z2, e0, r0, f0⟩ := hd 25 (by decide) 9 rfl
    rw [build_run rfl (r := trow (.slice x0 y0 z0) (.slice x1 y1 z1) (.slice x2 y2 z2)) (by simp only [List.map_toArray, List.map_cons, List.map_nil, e0, ev_const]; exact built_tree _ _ _ _ _ _ _ _ _) w1]
    rw [e0] at r0 f0
    exact ⟨⟨_, _, _, _, _, _, _, _, _, rfl, r0, f0⟩, Below.refl _ _⟩
   case q11 =>
    intro b w1 hb hd hk
    obtain ⟨x0, y0, z0, x1, y1, z1, x2, y2, z2, e0, r0, f0⟩ := hd 26 (by decide) 10 rfl
    rw [box_run2 rfl (by rw [e0]; exact box_run w1 _ _ _ _ _ _ _ _ _)]
    exact ⟨⟨w1, _, _, _, hb, r0, f0, rfl, Below.refl _ _⟩, ext_alloc _ _⟩
   case q12 =>
    intro b w1 hb hd hk
    have e0 : TreeNew W1 m w1 (b.eval (.tmp 27)) := hd 27 (by decide) 11 rfl
    rw [assign_run rfl w1]
    exact ⟨e0, Below.refl _ _⟩
  intro V W2 hb2 hV
  have h12 : TreeNew W1 m W2 (V 12) := hV 12 (by decide)
  clear hV
  obtain ⟨WT, u0, u1, u2, hbT, hmT, hfT, e12, hbN⟩ := h12
  have HFT := Lib.hid (show FrM w.heap.size (.agg #[u0, u1, u2]) from fun a b c e => ⟨fun k q => Nat.le_trans HB1.out.size ((hfT a b c e).1 k q), fun k q => Nat.le_trans HB1.out.size ((hfT a b c e).2.1 k q), fun k q => Nat.le_trans HB1.out.size ((hfT a b c e).2.2 k q)⟩)
  have HT2 := Lib.hid (show W2.heap[WT.heap.size]? = some (.cells (trow u0 u1 u2) 65) from (hbN.block _ (Nat.lt_succ_self _)).trans (heap_alloc_new _ _))
  have hbN2 : Below (WT.alloc (.cells (trow u0 u1 u2) 65)).heap.size (WT.alloc (.cells (trow u0 u1 u2) 65)) W2 := hbN.mono (by simp)
  have HMT := Lib.hid (hmT.below (ext_alloc WT (.cells (trow u0 u1 u2) 65)))
  have HMT2 := Lib.hid (HMT.out.below hbN2)
  have HBT := Lib.hid (show Below WT.heap.size WT W2 from (ext_alloc WT _).trans (hbN.mono (Nat.le_succ _)))
  have HBW := Lib.hid (show Below w.heap.size w WT from HB1.out.trans (hbT.mono HB1.out.size))
  have HPT := Lib.hid (vec_step HP1.out hbT)
  have HMI := Lib.hid (HME1.out.below hbT)
  have HMW := Lib.hid hmT
  have HTL := Lib.hid (show gP < WT.heap.size from Base.lt_of_heap HPT.out)
  simp only [putsL, Act.put, List.setIfInBounds_toArray, List.set_cons_succ, List.set_cons_zero, Nat.reduceAdd, List.drop_succ_cons, List.drop_zero, List.take_succ_cons, List.take_zero, e12]
  clear hb2 hbT hmT hfT e12 hbN hbN2 HMT HP1 HME1 HB1 HGP HR0 HR1 HR2
  clear W1
  obtain ⟨gT, hgT⟩ : ∃ g, g = WT.heap.size := ⟨_, rfl⟩
  rw [← hgT] at HT2 HBT HTL ⊢
  have HGT := Lib.hid hgT
  clear hgT
  have hx := ext_alloc W2 (.cells #[.pointer (some ⟨gT, 0, none⟩), .slice none 0 0, .int .i64 0, .int .i64 steps] 69)
  have hn := heap_alloc_new W2 (.cells #[.pointer (some ⟨gT, 0, none⟩), .slice none 0 0, .int .i64 0, .int .i64 steps] 69)
  have HTT := Lib.hid (Base.lt_of_heap HT2.out)
  have HL3 := Lib.hid (show Lp WT (W2.alloc (.cells #[.pointer (some ⟨gT, 0, none⟩), .slice none 0 0, .int .i64 0, .int .i64 steps] 69)) gT W2.heap.size gT (.slice none 0 0) (.slice none 0 0) u0 u1 u2 steps [] [] from
   ⟨hn, vec_step HT2.out hx, RecsOwn.nil _ _ _, Own.nil _ _ _ _ _, HBT.out.trans (hx.mono (by rw [HGT.out]; exact HBT.out.size)), ⟨Nat.le_of_lt HTT.out, Nat.le_refl _, by have := HTT.out; omega, Nat.le_trans (Nat.le_of_lt HTT.out) hx.size⟩, fun g e => by simp [Value.ownBlock] at e, fun g e => by simp [Value.ownBlock] at e⟩)
  go_upto_region 6 with (fail)
  obtain ⟨W3, hW⟩ : ∃ ww, ww = W2.alloc (.cells #[.pointer (some ⟨gT, 0, none⟩), .slice none 0 0, .int .i64 0, .int .i64 steps] 69) := ⟨_, rfl⟩
  rw [← hW] at HL3 ⊢
  clear hW hx hn
  generalize W2.heap.size = gM at HL3 ⊢
  have HM3 := Lib.hid (show IsMesh W3 (.agg #[.slice a0 n0 c0, .slice a1 n1 c1, .slice a2 n2 c2]) m from HMO.out.1.below ((HBW.out.trans (HL3.out.hb.mono (by rw [HGT.out]; exact HBW.out.size)))))
  have HP3 := Lib.hid (show W3.heap[gP]? = some (.cells #[.slice a0 n0 c0, .slice a1 n1 c1, .slice a2 n2 c2] 31) from (HL3.out.hb.block gP HTL.out).trans HPT.out)
  have CN := Lib.hid (count_any _ m W3 HM3.out (by have := HLEN.out; omega))
  obtain ⟨cnt, hcnt⟩ : ∃ c, c = m.ts.length + m.bs.length := ⟨_, rfl⟩
  rw [← hcnt] at CN
  have hcl : cnt ≤ 4096 := by rw [hcnt]; exact cnt_of HCD.out.symm
  have HCN := Lib.hid (And.intro hcnt hcl)
  clear hcnt hcl
  have p0 := cell_row HP3.out 0 _ rfl
  have p1 := cell_row HP3.out 1 _ rfl
  have p2 := cell_row HP3.out 2 _ rfl
  go_wp2_with fail
  refine CN.out.mono ?_
  rintro e W4 ⟨rfl, hb⟩
  have HL4 := Lib.hid (HL3.out.below hb)
  clear p0 p1 p2 hb CN HL3 HM3 HP3 HT2 HMT2 HBT HTT
  clear W3 W2
  go_wp2_with fail
  go_loopg [34] cnt (fun r n wr => ∃ (k : Nat) (vb vo : Value), k + r = cnt ∧ n = .int .i64 (k : Int) ∧ Hid (Lp WT wr gT gM gT vb vo u0 u1 u2 steps ((boxesM m).take k) (List.range k)))
  case atStart => exact ⟨0, _, _, by omega, rfl, HL4⟩
  case round =>
   obtain ⟨k, vb, vo, hkr, rfl, hin⟩ := hrel
   obtain ⟨ab, cb, hvb⟩ := hin.out.b.slice_
   obtain ⟨ao, no, co, hvo⟩ := hin.out.o.slice_
   obtain ⟨nb, hnb⟩ : ∃ x, x = ((boxesM m).take k).length := ⟨_, rfl⟩
   rw [← hnb] at hvb
   have HNB := Lib.hid hnb
   clear hnb
   subst hvb hvo
   have HM5 := Lib.hid (show wr.heap[gP]? = some (.cells #[.slice a0 n0 c0, .slice a1 n1 c1, .slice a2 n2 c2] 31) from (hin.out.hb.block gP HTL.out).trans HPT.out)
   by_cases hk : k < cnt
   ·
    have d1 : decide ((k : Int) < (cnt : Int)) = true := decide_eq_true (by omega)
    have d2 : decide (k < cnt) = true := decide_eq_true hk
    have HKK := Lib.hid (show k < 4096 by have := HCN.out.2; omega)
    have HMS := Lib.hid (show cnt - (k + 1) < gk by omega)
    have HKR := Lib.hid (show k + 1 + (cnt - (k + 1)) = cnt by omega)
    obtain ⟨bq, hbq⟩ : ∃ b, b = boxF m (k : Int) := ⟨_, rfl⟩
    have HTK := Lib.hid (show (boxesM m).take (k + 1) = (boxesM m).take k ++ [bq] by rw [hbq]; exact boxes_next m k (by rw [← HCN.out.1]; exact hk))
    have CV := Lib.hid (fun (w2 : World) (h : IsMesh w2 (.agg #[.slice a0 n0 c0, .slice a1 n1 c1, .slice a2 n2 c2]) m) => box_any _ m w2 h HMO.out.2 (by have := HLEN.out; omega) (k : Int) (in_small k HKK.out))
    rw [← hbq] at CV
    unfold boxV at CV
    clear hbq hk
    have HIN := hin
    clear hin
    have HJ := Lib.hid (fun (wa wb : World) (h : Keeps (fun k => (Value.slice ab nb cb).ownBlock = some k) wr wa) (hb : Below wa.heap.size wa wb) => h.trans (Keeps.of_ext hb (fun _ => False)) (fun _ h => h.elim))
    have HG := Lib.hid (fun (wa wb : World) (h : Keeps (fun k => (Value.slice ab nb cb).ownBlock = some k) wr wa) (_ : RecsOwn 6 encB 72 gT wa (Value.slice ab nb cb) ((boxesM m).take k)) (hg : wa.grownBy wb (Value.slice ab nb cb).ownBlock) => h.grown hg (fun k e => .inl e))
    have HBA := Lib.hid (fun (wa : World) (h : Keeps (fun k => (Value.slice ab nb cb).ownBlock = some k) wr wa) => Nat.le_trans HIN.out.low.2.2.2 h.size)
    have HB2 := Lib.hid (fun (wa : World) (h : Keeps (fun k => (Value.slice ab nb cb).ownBlock = some k) wr wa) => h.size)
    have HRM := Lib.hid (fun (wa : World) (h : Keeps (fun k => (Value.slice ab nb cb).ownBlock = some k) wr wa) => keep_cell h HIN.out.m (fun e => (HIN.out.nb gM e).1 rfl))
    have HRP := Lib.hid (fun (wa : World) (h : Keeps (fun k => (Value.slice ab nb cb).ownBlock = some k) wr wa) => keep_cell h HM5.out (fun e => by have := (HIN.out.b.lt _ e).1; have := HTL.out; omega))
    have HNM := Lib.hid (fun (wa wb : World) (h : Keeps (fun k => (Value.slice ab nb cb).ownBlock = some k) wr wa) (hb : Below wa.heap.size wa wb) => (show IsMesh wb (.agg #[.slice a0 n0 c0, .slice a1 n1 c1, .slice a2 n2 c2]) m from HMI.out.below (by rw [← HGT.out]; exact (HIN.out.hb.trans (h.below gT HIN.out.low.2.2.2 (fun k e => (HIN.out.b.lt k e).1))).trans (hb.mono (Nat.le_trans HIN.out.low.2.2.2 h.size)))))
    have HS0 := Lib.hid (show (PhD 6 encB 72 gT wr.heap.size (fun w' => Keeps (fun k => (Value.slice ab nb cb).ownBlock = some k) wr w') (fun w' => Keeps (fun k => (Value.slice ab nb cb).ownBlock = some k) wr w') (Value.slice ab nb cb) ((boxesM m).take k) bq #[.int .i64 bq.lo.x, .int .i64 bq.lo.y, .int .i64 bq.lo.z, .int .i64 bq.hi.x, .int .i64 bq.hi.y, .int .i64 bq.hi.z]) Ph.p0 wr from ⟨Keeps.refl _ _, HIN.out.b⟩)
    have HLE := Lib.hid (show (((boxesM m).take k).length + 1) * 48 ≤ 140737488355328 by rw [List.length_take]; have := HKK.out; omega)
    have HLE2 := Lib.hid (show ((boxesM m).take k).length + 1 ≤ 140737488355328 by rw [List.length_take]; have := HKK.out; omega)
    go_upto_region 9 with (fail)
    refine Qw.wp_region_writes 10 [0, 1, 2, 3, 4, 5, 6, 7] [8, 9] (PhD 6 encB 72 gT wr.heap.size (fun w' => Keeps (fun k => (Value.slice ab nb cb).ownBlock = some k) wr w') (fun w' => Keeps (fun k => (Value.slice ab nb cb).ownBlock = some k) wr w') (Value.slice ab nb cb) ((boxesM m).take k) bq #[.int .i64 bq.lo.x, .int .i64 bq.lo.y, .int .i64 bq.lo.z, .int .i64 bq.hi.x, .int .i64 bq.hi.y, .int .i64 bq.hi.z]) Ph.p0 (by kernel_rfl) (by kernel_rfl) (PhD.step HJ.out HJ.out Ph.p0 wr _ HS0.out ⟨rfl, rfl, rfl, Nat.le_refl _, fun _ _ => rfl⟩) ?_
    refine Qw.Walk.step (A := ?A1) (o := ?o1) (fun s w w2 h hb => PhD.step HJ.out HJ.out s w w2 h hb) Ph.p0 wr HS0.out ?e1 ?w1 37 ?d1 (by simp) ?h1 ?n1
    case e1 => simp only [List.getElem?_toArray, List.getElem?_cons_succ, List.getElem?_cons_zero]; exact rfl
    case w1 => exact rfl
    case d1 => exact rfl
    case h1 =>
     intro s9 w9 h9
     go_big_quiet_op
     exact rfl
    refine Qw.Walk.step (A := ?A2) (o := ?o2) (fun s w w2 h hb => PhD.step HJ.out HJ.out s w w2 h hb) Ph.p0 wr HS0.out ?e2 ?w2 38 ?d2 (by simp) ?h2 ?n2
    case e2 => simp only [List.getElem?_toArray, List.getElem?_cons_succ, List.getElem?_cons_zero]; exact rfl
    case w2 => exact rfl
    case d2 => exact rfl
    case h2 =>
     intro s9 w9 h9
     go_big_quiet_op
     exact rfl
    refine Qw.Walk.step (A := ?A3) (o := ?o3) (fun s w w2 h hb => PhD.step HJ.out HJ.out s w w2 h hb) Ph.p0 wr HS0.out ?e3 ?w3 39 ?d3 (by simp) ?h3 ?n3
    case e3 => simp only [List.getElem?_toArray, List.getElem?_cons_succ, List.getElem?_cons_zero]; exact rfl
    case w3 => exact rfl
    case d3 => exact rfl
    case h3 =>
     intro s9 w9 h9
     go_big_quiet_op
     exact rfl
    refine Qw.Walk.step (A := ?A4) (o := ?o4) (fun s w w2 h hb => PhD.step HJ.out HJ.out s w w2 h hb) Ph.p0 wr HS0.out ?e4 ?w4 40 ?d4 (by simp) ?h4 ?n4
    case e4 => simp only [List.getElem?_toArray, List.getElem?_cons_succ, List.getElem?_cons_zero]; exact rfl
    case w4 => exact rfl
    case d4 => exact rfl
    case h4 =>
     intro s9 w9 h9
     go_big_quiet_op
     exact rfl
    refine Qw.Walk.step (A := ?A5) (o := ?o5) (fun s w w2 h hb => PhD.step HJ.out HJ.out s w w2 h hb) Ph.p0 wr HS0.out ?e5 ?w5 41 ?d5 (by simp) ?h5 ?n5
    case e5 => simp only [List.getElem?_toArray, List.getElem?_cons_succ, List.getElem?_cons_zero]; exact rfl
    case w5 => exact rfl
    case d5 => exact rfl
    case h5 =>
     intro s9 w9 h9
     have hJ9 : (fun w' => Keeps (fun k => (Value.slice ab nb cb).ownBlock = some k) wr w') w9 := by cases s9 <;> exact h9.1
     have e0 := cell_all (HRM.out w9 hJ9) 1 _ rfl
     go_big_quiet_op
     exact rfl
    refine Qw.Walk.step (A := ?A6) (o := ?o6) (fun s w w2 h hb => PhD.step HJ.out HJ.out s w w2 h hb) Ph.p0 wr HS0.out ?e6 ?w6 42 ?d6 (by simp) ?h6 ?n6
    case e6 => simp only [List.getElem?_toArray, List.getElem?_cons_succ, List.getElem?_cons_zero]; exact rfl
    case w6 => exact rfl
    case d6 => exact rfl
    case h6 =>
     intro s9 w9 h9
     have hJ9 : (fun w' => Keeps (fun k => (Value.slice ab nb cb).ownBlock = some k) wr w') w9 := by cases s9 <;> exact h9.1
     have e0 := cell_all (HRP.out w9 hJ9) 0 _ rfl
     have e1 := cell_all (HRP.out w9 hJ9) 1 _ rfl
     have e2 := cell_all (HRP.out w9 hJ9) 2 _ rfl
     go_big_quiet_op
     exact rfl
    refine Qw.Walk.step (A := ?A7) (o := ?o7) (fun s w w2 h hb => PhD.step HJ.out HJ.out s w w2 h hb) Ph.p0 wr HS0.out ?e7 ?w7 43 ?d7 (by simp) ?h7 ?n7
    case e7 => simp only [List.getElem?_toArray, List.getElem?_cons_succ, List.getElem?_cons_zero]; exact rfl
    case w7 => exact rfl
    case d7 => exact rfl
    case h7 =>
     intro s9 w9 h9
     go_big_quiet_op
     exact rfl
    refine Qw.Walk.step (A := ?A8) (o := ?o8) (fun s w w2 h hb => PhD.step HJ.out HJ.out s w w2 h hb) Ph.p0 wr HS0.out ?e8 ?w8 44 ?d8 (by simp) ?h8 ?n8
    case e8 => simp only [List.getElem?_toArray, List.getElem?_cons_succ, List.getElem?_cons_zero]; exact rfl
    case w8 => exact rfl
    case d8 => exact rfl
    case h8 =>
     intro s9 w9 h9
     have hJ9 : (fun w' => Keeps (fun k => (Value.slice ab nb cb).ownBlock = some k) wr w') w9 := by cases s9 <;> exact h9.1
     have Q9 := qb (P := Tryz.prog) (W := w9) (fun w2 hb => CV.out w2 (HNM.out w9 w2 hJ9 hb))
     go_big_quiet_op
     apply Exists.intro
     refine ⟨fun _ => ?_, ?_⟩
     ·
      with_reducible exact Q9 _ _
     ·
      exact rfl
    refine Qx.Chain.app (ob := ?ob1) (oa := ?oa1) boxes_slice HJ.out HG.out HBA.out HB2.out rfl HLE.out HLE2.out ?b1 ?b2 ?b3 ?b4 ?b6 (.tmp 41) (.tmp 45) ?b7 ?b8 ?b9 ?b5
    case b1 => simp only [List.getElem?_toArray, List.getElem?_cons_succ, List.getElem?_cons_zero]; exact rfl
    case b4 => simp only [List.getElem?_toArray, List.getElem?_cons_succ, List.getElem?_cons_zero]; exact rfl
    case b2 => exact rfl
    case b6 => exact rfl
    case b7 => exact rfl
    case b8 => exact fun gs => rfl
    case b9 => exact fun gs => rfl
    case b3 => intro w9; simp [execOp, Act.eval, Act.put, go_sem]
    intro gs v9 w9 h9
    have H9 := Lib.hid h9
    clear h9
    simp only [List.drop_succ_cons, List.drop_zero, Act.put, List.setIfInBounds_toArray, List.set_cons_succ, List.set_cons_zero]
    obtain ⟨a9, c9, hv9⟩ := H9.out.2.1.slice_
    obtain ⟨N1, hN1⟩ : ∃ x, x = ((boxesM m).take k ++ [bq]).length := ⟨_, rfl⟩
    rw [← hN1] at hv9
    have HN1 := Lib.hid hN1
    clear hN1
    subst hv9
    have HM9 := Lib.hid (HRM.out _ H9.out.1)
    have HL5 := Lib.hid (HIN.out.box H9.out.1 H9.out.2.1 H9.out.2.2)
    clear HJ HG HBA HB2 HRM HRP HNM HS0 HLE HLE2 CV HIN HM5
    have r9 := cell_row HM9.out 1 _ rfl
    have t9 := frozen_of_row _ _ 1 _ _ HM9.out
    go_upto_region 10 with (fail)
    obtain ⟨W5, hW⟩ : ∃ ww, ww = w9.setCell ⟨gM, 1, none⟩ (.slice a9 N1 c9) := ⟨_, rfl⟩
    rw [← hW] at HL5 ⊢
    clear hW r9 t9 H9 HM9
    clear w9 wr
    have HL6 := Lib.hid (HL5.out.below (ext_alloc W5 (.cells #[.int .i64 (k : Int)] 3)))
    have R1 := Lib.hid (nums_one .i64 9223372036854775808 3 W5 k (by have := HKK.out; omega))
    have HA := Lib.hid (show ((List.range k).length + [k].length) * 8 ≤ 140737488355328 by rw [List.length_range]; have := HKK.out; simp; omega)
    have HA2 := Lib.hid (show (List.range k).length + [k].length ≤ 140737488355328 by rw [List.length_range]; have := HKK.out; simp; omega)
    have q5 := cell_row HL5.out.t 5 _ rfl
    go_upto_region 11 with (at_builtin; refine wpList_append_nums_at rfl (.tmp 53) (.tmp 55) 22 3 rfl .i64 9223372036854775808 8 gT ints (.slice ao no co) (List.range k) rfl HL6.out.o _ [k] rfl R1.out HA.out HA2.out HL6.out.low.2.2.2 ?_; intro v7 w7 hown7 hgr7 hv7; have HL7 := Lib.hid (HL6.out.ord hgr7 hown7 hv7); obtain ⟨a7, n7, c7, rfl⟩ := hown7.slice_; have HT7 := Lib.hid (show w7.heap[gT]? = _ from (hgr7.block gT (Base.lt_of_heap HL6.out.t) (fun e => (HL6.out.no gT e.symm).2 rfl)).trans HL6.out.t); have r9 := cell_row HT7.out 5 _ rfl; have t9 := frozen_of_row _ _ 5 _ _ HT7.out; clear hown7 hgr7 hv7)
    obtain ⟨W7, hW⟩ : ∃ ww, ww = w7.setCell ⟨gT, 5, none⟩ (.slice a7 n7 c7) := ⟨_, rfl⟩
    rw [← hW] at HL7 ⊢
    clear hW r9 t9 HL6 HL5 R1 HA HA2 q5 HT7
    have i9 : IntKind.i64.wrap ((k : Int) + 1) = ((k + 1 : Nat) : Int) := by have := HKK.out; rw [wrap_in (by omega) (by omega)]; omega
    go_wp2_with fail
    go_roundg (cnt - (k + 1))
    case measure => exact HMS.out
    case rel => exact ⟨k + 1, _, _, HKR.out, by first | rfl | go_num, by rw [HTK.out, List.range_succ]; exact HL7⟩
   ·
    have hkk : k = cnt := by omega
    subst hkk
    have d1 : decide ((k : Int) < (k : Int)) = false := decide_eq_false (by omega)
    have d2 : decide (k < k) = false := decide_eq_false (by omega)
    have HTK := Lib.hid (show (boxesM m).take k = boxesM m by rw [HCN.out.1]; exact boxes_all m)
    have HL8 := Lib.hid hin.out
    rw [HTK.out] at HL8
    clear hin HTK HL4
    go_upto_region 12 with (fail)
    have q5 := cell_row HL8.out.t 5 _ rfl
    have q6 : no = k := by have := HL8.out.o.slice_len; simpa using this
    subst q6
    by_cases hz : no = 0
    ·
     subst hz
     have d3 : decide ((0 : Int) < ((0 : Nat) : Int)) = false := rfl
     have HC0 := Lib.hid (show cntM m = 0 from HCN.out.1.symm)
     have HST := Lib.hid (show (stepsM m : Int) = 0 by unfold stepsM; rw [if_pos HC0.out]; rfl)
     have r2 := cell_row HL8.out.m 2 _ rfl
     have r3 := fun d os => cell_regrown r2 d os
     by_cases hs : steps < 0
     ·
      have d4 : decide (steps < 0) = true := decide_eq_true hs
      have HF := Lib.hid (show QQ (.returned (.tuple #[.pointer none, .int .i64 0, .int .i64 15])) wr by rw [HTO.out]; exact ⟨HBW.out.trans (HL8.out.hb.mono (by rw [HGT.out]; exact HBW.out.size)), by rw [if_neg (fun h => h rfl), if_pos (by rw [HST.out]; exact hs)]⟩)
      clear hs
      go_wp2_with fail
      refine bodyPost_ret (results_tmp3 rfl _ _ _) rfl ?_
      exact HF.out
     ·
      have d4 : decide (steps < 0) = false := decide_eq_false hs
      have HNG := Lib.hid hs
      clear hs
      go_upto_region 16 with (fail)
      refine wp_region_quiet_below (by kernel_rfl) (by kernel_rfl) ?_
      repeat (go_big_quiet_step (fail))
      refine wpQuiet_nil ?_
      first | (rintro _ ⟨⟨dq, osq⟩, rfl⟩) | (rintro ⟨dq, osq⟩)
      have hb := below_regrown wr dq osq
      obtain ⟨W9, hW⟩ : ∃ ww, ww = grow (redrawn wr dq) osq := ⟨_, rfl⟩
      rw [← hW] at hb ⊢
      clear hW
      have HL9 := Lib.hid (HL8.out.below hb)
      clear hb r3 r2
      go_wp2_with fail
      refine bodyPost_ret (results_tmp3 rfl _ _ _) rfl ?_
      rw [HTO.out]
      refine ⟨HBW.out.trans (HL9.out.hb.mono (by rw [HGT.out]; exact HBW.out.size)), ?_⟩
      rw [if_neg (fun h => h rfl), if_neg (by rw [HST.out]; have := HNG.out; omega)]
      exact ⟨gT, by rw [HST.out]; rfl, tree_none HL9.out HC0.out HMW.out HGT.out (by rw [HGT.out]; exact HBW.out.size) HFT.out, by rw [HGT.out]; exact HBW.out.size⟩
    ·
     have HC0 := Lib.hid (show cntM m ≠ 0 from fun e => hz (HCN.out.1.trans e))
     have HNO := Lib.hid (show no = cntM m from HCN.out.1)
     have d3 : decide ((0 : Int) < (no : Int)) = true := decide_eq_true (by omega)
     have d5 : decide (0 < no) = true := decide_eq_true (by omega)
     obtain ⟨blk, cp, hvo, -⟩ := HL8.out.o.at_ (by rw [List.length_range]; omega)
     simp only [Value.slice.injEq] at hvo
     obtain ⟨rfl, -, rfl⟩ := hvo
     have HBD := Lib.hid (show Bd WT wr gT gM gT (.slice ab nb cb) u0 u1 u2 steps blk co (boxesM m) (.slice none 0 0) (startS m) from by have h := HL8.out; rw [HNO.out] at h; exact start_bd h)
     have CA0 := add_any WT gT gM gT (.slice ab nb cb) u0 u1 u2 steps blk co (boxesM m) (ok_boxes m HMO.out.2) (by have := HCN.out; simp [boxesM]; omega) (cntM m) 0 (cntM m) 1 wr _ (startS m) HBD.out (start_side m HC0.out (by rw [← HNO.out]; exact HCN.out.2))
     have HAD := Lib.hid (added m HC0.out steps)
     obtain ⟨R, hR⟩ : ∃ R, R = addP (boxesM m) steps (cntM m) 0 (cntM m) 1 (startS m) := ⟨_, rfl⟩
     rw [← hR] at CA0 HAD
     rw [← HNO.out] at CA0
     have CA := Lib.hid (show Calls Tryz.prog 24 #[.pointer (some ⟨gM, 0, none⟩), .int .i64 0, .int .i64 (no : Int), .int .i64 1] wr (fun e w' => e = .returned (.int .i64 0) ∧ ∃ vn', Bd WT w' gT gM gT (.slice ab nb cb) u0 u1 u2 steps blk co (boxesM m) vn' R) from CA0)
     clear CA0 hR hz HBD
     go_wp2_with fail
     refine CA.out.mono ?_
     rintro e W8 ⟨rfl, vn, hbd⟩
     have HBD := Lib.hid hbd
     clear hbd CA q5 HL8 d3 d5 HM5
     clear wr
     obtain ⟨rs, hrs⟩ : ∃ x, x = R.st := ⟨_, rfl⟩
     have HRS := Lib.hid hrs
     clear hrs
     have r2 : W8.cell? ⟨gM, 2, none⟩ = some (.int .i64 (rs : Int)) := by rw [HRS.out]; exact cell_row HBD.out.mt.m 2 _ rfl
     have r3 := fun d os => cell_regrown r2 d os
     by_cases hs : steps < (stepsM m : Int)
     ·
      have d4 : decide (steps < (rs : Int)) = true := decide_eq_true (by rw [HRS.out]; exact HAD.out.2 hs)
      have HF := Lib.hid (show QQ (.returned (.tuple #[.pointer none, .int .i64 0, .int .i64 15])) W8 by rw [HTO.out]; exact ⟨HBW.out.trans (HBD.out.hb.mono (by rw [HGT.out]; exact HBW.out.size)), by rw [if_neg (fun h => h rfl), if_pos hs]⟩)
      clear hs
      go_wp2_with fail
      refine bodyPost_ret (results_tmp3 rfl _ _ _) rfl ?_
      exact HF.out
     ·
      have HRE := Lib.hid (HAD.out.1 (by omega))
      have HRV := Lib.hid (show rs = stepsM m by rw [HRS.out, HRE.out])
      have d4 : decide (steps < (rs : Int)) = false := decide_eq_false (by rw [HRV.out]; exact hs)
      have HNG := Lib.hid hs
      clear hs
      go_upto_region 16 with (fail)
      refine wp_region_quiet_below (by kernel_rfl) (by kernel_rfl) ?_
      repeat (go_big_quiet_step (fail))
      refine wpQuiet_nil ?_
      first | (rintro _ ⟨⟨dq, osq⟩, rfl⟩) | (rintro ⟨dq, osq⟩)
      have hb := below_regrown W8 dq osq
      obtain ⟨W9, hW⟩ : ∃ ww, ww = grow (redrawn W8 dq) osq := ⟨_, rfl⟩
      rw [← hW] at hb ⊢
      clear hW
      have HL9 := Lib.hid (HBD.out.below hb)
      clear hb r3 r2
      go_wp2_with fail
      refine bodyPost_ret (results_tmp3 rfl _ _ _) rfl ?_
      rw [HTO.out]
      refine ⟨HBW.out.trans (HL9.out.hb.mono (by rw [HGT.out]; exact HBW.out.size)), ?_⟩
      rw [if_neg (fun h => h rfl), if_neg (by have := HNG.out; omega)]
      exact ⟨gT, by rw [← HRV.out]; rfl, tree_done HL9.out HRE.out HMW.out HGT.out (by rw [HGT.out]; exact HBW.out.size) HFT.out, by rw [HGT.out]; exact HBW.out.size⟩
 ·
  have d0 : decide (cd = 0) = false := decide_eq_false hc
  have HF := Lib.hid (show QQ (.returned (.tuple #[.pointer none, .int .i64 0, .int .i64 cd])) W1 by rw [HTO.out]; exact ⟨HB1.out, by rw [if_pos hc]⟩)
  go_wp2_with fail
  refine bodyPost_ret (results_tmp3 rfl _ _ _) rfl ?_
  exact HF.out
end Go.Proofs.YtdaokkgenfpmhaaGreat.BvhE

/- Asking a tree that lies in a row, by a stack of nodes that are still to be asked. Plain. -/
set_option linter.unusedVariables false
set_option linter.unusedSimpArgs false
namespace Go.Proofs.YtdaokkgenfpmhaaGreat.BvhF
open Go FixM VecW VecV VecU MeshM MeshP HitM HitN HitV HitP HitO HitU BvhM BvhS BvhE
structure Pd where
 T : Tr
 i : Nat
 f : Nat
def Lies (m : Msh) (ns : List Nd) (ord : List Nat) (p : Pd) : Prop := (∀ k, k < nodesT p.T → ns[p.i + k]? = (flatN m p.T p.i p.f)[k]?) ∧ (∀ k, k < (leavesT p.T).length → ord[p.f + k]? = (leavesT p.T)[k]?) ∧ p.T.good
theorem nodes_pos : ∀ t : Tr, 1 ≤ nodesT t := by intro t; cases t <;> (unfold nodesT; omega)
theorem Lies.leaf {m : Msh} {ns : List Nd} {ord : List Nat} {l : List Nat} {i f : Nat} (h : Lies m ns ord ⟨.leaf l, i, f⟩) : ns[i]? = some ⟨boxL m l, f, f + l.length, -1, -1⟩ := h.1 0 (nodes_pos _)
theorem Lies.node {m : Msh} {ns : List Nd} {ord : List Nat} {l : List Nat} {a b : Tr} {i f : Nat} (h : Lies m ns ord ⟨.node l a b, i, f⟩) : ns[i]? = some ⟨boxL m l, f, f + l.length, ((i + 1 : Nat) : Int), ((i + 1 + nodesT a : Nat) : Int)⟩ := h.1 0 (nodes_pos _)
theorem Lies.left {m : Msh} {ns : List Nd} {ord : List Nat} {l : List Nat} {a b : Tr} {i f : Nat} (h : Lies m ns ord ⟨.node l a b, i, f⟩) : Lies m ns ord ⟨a, i + 1, f⟩ := by
 obtain ⟨h1, h2, h3⟩ := h
 refine ⟨fun k hk => ?_, fun k hk => ?_, h3.1⟩
 ·
  have := h1 (k + 1) (by show k + 1 < 1 + nodesT a + nodesT b; have : k < nodesT a := hk; omega)
  dsimp only at this ⊢
  rw [show i + 1 + k = i + (k + 1) by omega, this, flat_node, List.getElem?_cons_succ, List.getElem?_append_left (by rw [flat_length]; exact hk)]
 ·
  have hk' : k < (leavesT a).length := hk
  have := h2 k (by show k < (leavesT a ++ leavesT b).length; rw [List.length_append]; omega)
  dsimp only at this ⊢
  rw [this, leaves_node, List.getElem?_append_left hk']
theorem Lies.right {m : Msh} {ns : List Nd} {ord : List Nat} {l : List Nat} {a b : Tr} {i f : Nat} (h : Lies m ns ord ⟨.node l a b, i, f⟩) : Lies m ns ord ⟨b, i + 1 + nodesT a, f + a.l.length⟩ := by
 obtain ⟨h1, h2, h3⟩ := h
 have hl := leaves_length a h3.1
 refine ⟨fun k hk => ?_, fun k hk => ?_, h3.2.1⟩
 ·
  have := h1 (1 + nodesT a + k) (by show 1 + nodesT a + k < 1 + nodesT a + nodesT b; have : k < nodesT b := hk; omega)
  dsimp only at this ⊢
  rw [show i + 1 + nodesT a + k = i + (1 + nodesT a + k) by omega, this, flat_node, show 1 + nodesT a + k = (nodesT a + k) + 1 by omega, List.getElem?_cons_succ, List.getElem?_append_right (by rw [flat_length]; omega), flat_length]
  congr 1; omega
 ·
  have hk' : k < (leavesT b).length := hk
  have := h2 (a.l.length + k) (by show a.l.length + k < (leavesT a ++ leavesT b).length; rw [List.length_append]; omega)
  dsimp only at this ⊢
  rw [show f + a.l.length + k = f + (a.l.length + k) by omega, this, leaves_node, List.getElem?_append_right (by omega), hl]
  congr 1; omega
theorem Lies.part {m : Msh} {ns : List Nd} {ord : List Nat} {l : List Nat} {i f : Nat} (h : Lies m ns ord ⟨.leaf l, i, f⟩) : 1 ≤ l.length ∧ l.length ≤ 2 ∧ f + l.length ≤ ord.length ∧ ∀ k (hk : k < l.length), ord[f + k]? = some l[k] := by
 obtain ⟨h1, h2, h3⟩ := h
 have hc : ∀ k (hk : k < l.length), ord[f + k]? = some l[k] := fun k hk => by rw [h2 k hk]; exact List.getElem?_eq_getElem hk
 refine ⟨h3.1, h3.2, ?_, hc⟩
 have := hc (l.length - 1) (by have := h3.1; omega)
 have := (List.getElem?_eq_some_iff.1 this).1
 have := h3.1
 omega
theorem lies_whole (m : Msh) (h : cntM m ≠ 0) : Lies m (flatM m) (ordM m) ⟨wholeT m, 0, 0⟩ := by
 refine ⟨fun k hk => ?_, fun k hk => ?_, whole_good m h⟩
 ·
  unfold flatM; rw [if_neg h, Nat.zero_add]
 ·
  unfold ordM; rw [if_neg h, Nat.zero_add]
def ansS (m : Msh) (r : Ry) (least : Int) : List Pd → Ht → Nat → Ht × Nat
 | [], h, c => (h, c)
 | p :: ss, h, c => ansS m r least ss (askT m r least p.T h).1 (c + (askT m r least p.T h).2)
theorem ans_skip (m : Msh) (r : Ry) (least : Int) (p : Pd) (ss : List Pd) (h : Ht) (c : Nat) (hs : boxH r (boxL m p.T.l) = none ∨ ∃ near, boxH r (boxL m p.T.l) = some near ∧ 0 ≤ h.i ∧ h.t < near) : ansS m r least (p :: ss) h c = ansS m r least ss h (c + 1) := by
 have e : askT m r least p.T h = (h, 1) := by
  obtain ⟨T, i, f⟩ := p
  dsimp only at hs ⊢
  cases T with
  | leaf l =>
   unfold askT
   rcases hs with e | ⟨near, e, h1, h2⟩
   ·
    have e' : boxH r (boxL m l) = none := e
    rw [e']
   ·
    have e' : boxH r (boxL m l) = some near := e
    rw [e']; dsimp only; rw [if_pos ⟨h1, h2⟩]
  | node l a b =>
   unfold askT
   rcases hs with e | ⟨near, e, h1, h2⟩
   ·
    have e' : boxH r (boxL m l) = none := e
    rw [e']
   ·
    have e' : boxH r (boxL m l) = some near := e
    rw [e']; dsimp only; rw [if_pos ⟨h1, h2⟩]
 show ansS m r least ss _ _ = _
 rw [e]
theorem ans_leaf (m : Msh) (r : Ry) (least : Int) (l : List Nat) (i f : Nat) (ss : List Pd) (h : Ht) (c : Nat) (near : Int) (e : boxH r (boxL m l) = some near) (hn : ¬ (0 ≤ h.i ∧ h.t < near)) : ansS m r least (⟨.leaf l, i, f⟩ :: ss) h c = ansS m r least ss (l.foldl (tryF m r least) h) (c + 1 + l.length) := by
 have e2 : askT m r least (.leaf l) h = (l.foldl (tryF m r least) h, 1 + l.length) := by
  unfold askT; rw [e]; dsimp only; rw [if_neg hn]
 show ansS m r least ss _ _ = _
 rw [e2, Nat.add_assoc]
theorem ans_node (m : Msh) (r : Ry) (least : Int) (l : List Nat) (a b : Tr) (i f : Nat) (ss : List Pd) (h : Ht) (c : Nat) (near : Int) (e : boxH r (boxL m l) = some near) (hn : ¬ (0 ≤ h.i ∧ h.t < near)) (ia fa ib fb : Nat) : ansS m r least (⟨.node l a b, i, f⟩ :: ss) h c = ansS m r least (⟨a, ia, fa⟩ :: ⟨b, ib, fb⟩ :: ss) h (c + 1) := by
 have e2 : askT m r least (.node l a b) h = ((askT m r least b (askT m r least a h).1).1, 1 + (askT m r least a h).2 + (askT m r least b (askT m r least a h).1).2) := by
  conv => lhs; unfold askT
  rw [e]; dsimp only; rw [if_neg hn]
 show ansS m r least ss _ _ = ansS m r least ss _ _
 rw [e2]
 dsimp only
 congr 1
 omega
/-- how much is still to be asked -/
def wt : List Pd → Nat
 | [] => 0
 | p :: ss => nodesT p.T + wt ss
/-- what the rest costs at most -/
def cst : List Pd → Nat
 | [] => 0
 | p :: ss => nodesT p.T + p.T.l.length + cst ss
/-- the stack fits -/
def Fit : List Pd → Prop
 | [] => True
 | p :: ss => ss.length + deepT p.T ≤ 32 ∧ Fit ss
theorem fit_kids {l : List Nat} {a b : Tr} {i f ia fa ib fb : Nat} {ss : List Pd} (h : Fit (⟨.node l a b, i, f⟩ :: ss)) : Fit (⟨a, ia, fa⟩ :: ⟨b, ib, fb⟩ :: ss) ∧ ss.length + 1 < 32 := by
 obtain ⟨h1, h2⟩ := h
 have e : deepT (.node l a b) = 1 + max (deepT a) (deepT b) := rfl
 dsimp only at h1
 have := deep_pos a
 have := deep_pos b
 refine ⟨⟨?_, ?_, h2⟩, by omega⟩
 ·
  show ss.length + 1 + deepT a ≤ 32; omega
 ·
  show ss.length + deepT b ≤ 32; omega
theorem wt_kids (l : List Nat) (a b : Tr) (i f ia fa ib fb : Nat) (ss : List Pd) : wt (⟨a, ia, fa⟩ :: ⟨b, ib, fb⟩ :: ss) < wt (⟨.node l a b, i, f⟩ :: ss) := by
 show nodesT a + (nodesT b + wt ss) < 1 + nodesT a + nodesT b + wt ss
 omega
theorem cst_kids {l : List Nat} {a b : Tr} (i f ia fa ib fb : Nat) (ss : List Pd) (h : (Tr.node l a b).good) : cst (⟨a, ia, fa⟩ :: ⟨b, ib, fb⟩ :: ss) + 1 = cst (⟨.node l a b, i, f⟩ :: ss) := by
 have e := h.2.2.length_eq
 rw [List.length_append] at e
 show nodesT a + a.l.length + (nodesT b + b.l.length + cst ss) + 1 = 1 + nodesT a + nodesT b + l.length + cst ss
 omega
theorem wt_drop (p : Pd) (ss : List Pd) : wt ss < wt (p :: ss) := by show wt ss < nodesT p.T + wt ss; have := nodes_pos p.T; omega
theorem whole_deep (m : Msh) (hl : cntM m ≤ 4096) : deepT (wholeT m) ≤ 12 := deep_le m 11 _ _ (by unfold allL; rw [List.length_range]; exact hl) (by unfold allL; rw [List.length_range]; exact Nat.le_refl _)
theorem ans_whole (m : Msh) (r : Ry) (least : Int) (h : cntM m ≠ 0) : ansS m r least [⟨wholeT m, 0, 0⟩] htN 0 = nearestF m r least := by
 have h' : ¬ m.ts.length + m.bs.length = 0 := h
 unfold nearestF
 rw [if_neg h']
 show (_, 0 + _) = _
 rw [Nat.zero_add]
theorem fit_whole (m : Msh) (hl : cntM m ≤ 4096) : Fit [⟨wholeT m, 0, 0⟩] := ⟨by have := whole_deep m hl; show 0 + deepT (wholeT m) ≤ 32; omega, trivial⟩
theorem ans_none (m : Msh) (r : Ry) (least : Int) (h : cntM m = 0) : nearestF m r least = (htN, 0) := by
 have h' : m.ts.length + m.bs.length = 0 := h
 unfold nearestF; rw [if_pos h']
theorem cst_whole (m : Msh) (h : cntM m ≠ 0) (hl : cntM m ≤ 4096) : cst [⟨wholeT m, 0, 0⟩] ≤ 100000 := by
 have hg := whole_good m h
 have h1 := nodes_le _ hg
 have h2 : (wholeT m).l.length = cntM m := by rw [whole_l]; unfold allL; rw [List.length_range]; rfl
 show nodesT (wholeT m) + (wholeT m).l.length + 0 ≤ 100000
 omega
/-- the loop's plain state -/
structure Lo (m : Msh) (ns : List Nd) (ord : List Nat) (an : List Pd → Ht → Nat → Ht × Nat) (res : Ht × Nat) (ss : List Pd) (best : Ht) (c : Nat) : Prop where
 lies : ∀ p ∈ ss, Lies m ns ord p
 fit : Fit ss
 ans : an ss best c = res
 bd : c + cst ss ≤ 100000
theorem ord_lt (m : Msh) (i : Nat) (h : i ∈ ordM m) : i < cntM m := by
 unfold ordM at h
 by_cases hc : cntM m = 0
 ·
  rw [if_pos hc] at h; simp at h
 ·
  rw [if_neg hc] at h
  have := (leaves_perm _ (whole_good m hc)).mem_iff.1 h
  rw [whole_l] at this
  unfold allL at this
  rw [List.mem_range] at this
  exact this
end Go.Proofs.YtdaokkgenfpmhaaGreat.BvhF

/- One by one put in order is in order: insertion gives what sorting gives. Plain. -/
set_option linter.unusedVariables false
set_option linter.unusedSimpArgs false
namespace Go.Proofs.YtdaokkgenfpmhaaGreat.BvhQ
open Go FixM VecW VecV VecU MeshM MeshP HitM HitN HitV HitP HitO HitU BvhM BvhS BvhE BvhF
def ltF (m : Msh) (ax j x : Nat) : Bool := decide (keyF m ax j < keyF m ax x) || (decide (keyF m ax j = keyF m ax x) && decide (j < x))
def posF (m : Msh) (ax x : Nat) : List Nat → Nat
 | [] => 0
 | y :: l => if ltF m ax y x then 1 + posF m ax x l else 0
def insF (m : Msh) (ax : Nat) (l : List Nat) (x : Nat) : List Nat := l.take (posF m ax x l) ++ x :: l.drop (posF m ax x l)
def insAll (m : Msh) (ax : Nat) (l : List Nat) : List Nat := l.foldl (insF m ax) []
theorem lt_le {m : Msh} {ax j x : Nat} (h : ltF m ax j x = true) : leF m ax j x = true := by
 unfold ltF at h; unfold leF
 simp only [Bool.or_eq_true, Bool.and_eq_true, decide_eq_true_eq] at *
 omega
theorem nlt_le {m : Msh} {ax j x : Nat} (h : ¬ ltF m ax j x = true) : leF m ax x j = true := by
 unfold ltF at h; unfold leF
 simp only [Bool.or_eq_true, Bool.and_eq_true, decide_eq_true_eq] at *
 omega
theorem le_trans {m : Msh} {ax : Nat} (a b c : Nat) (h1 : leF m ax a b = true) (h2 : leF m ax b c = true) : leF m ax a c = true := by
 unfold leF at *
 simp only [Bool.or_eq_true, Bool.and_eq_true, decide_eq_true_eq] at *
 omega
theorem le_total {m : Msh} {ax : Nat} (a b : Nat) : (leF m ax a b || leF m ax b a) = true := by
 unfold leF
 simp only [Bool.or_eq_true, Bool.and_eq_true, decide_eq_true_eq]
 omega
theorem le_anti {m : Msh} {ax a b : Nat} (h1 : leF m ax a b = true) (h2 : leF m ax b a = true) : a = b := by
 unfold leF at *
 simp only [Bool.or_eq_true, Bool.and_eq_true, decide_eq_true_eq] at *
 omega
theorem pos_le (m : Msh) (ax x : Nat) : ∀ l, posF m ax x l ≤ l.length := by
 intro l
 induction l with
 | nil => exact Nat.le_refl _
 | cons y l ih => unfold posF; split <;> simp only [List.length_cons] <;> omega
/-- the place: all ahead of it are less, the one there is not -/
theorem pos_less (m : Msh) (ax x : Nat) : ∀ (l : List Nat) (k : Nat) (h : k < l.length), k < posF m ax x l → ltF m ax l[k] x = true := by
 intro l
 induction l with
 | nil => intro k h; simp at h
 | cons y l ih =>
  intro k h hk
  unfold posF at hk
  by_cases c : ltF m ax y x = true
  ·
   rw [if_pos c] at hk
   cases k with
   | zero => exact c
   | succ k => exact ih k (by simpa using h) (by omega)
  ·
   rw [if_neg c] at hk; omega
theorem pos_stop (m : Msh) (ax x : Nat) : ∀ (l : List Nat) (h : posF m ax x l < l.length), ¬ ltF m ax l[posF m ax x l] x = true := by
 intro l
 induction l with
 | nil => intro h; simp at h
 | cons y l ih =>
  intro h
  by_cases c : ltF m ax y x = true
  ·
   have e : posF m ax x (y :: l) = posF m ax x l + 1 := by conv => lhs; unfold posF
                                                           rw [if_pos c]; omega
   have h2 : posF m ax x l < l.length := by rw [e] at h; simpa using h
   have h3 := ih h2
   have e2 : (y :: l)[posF m ax x (y :: l)] = l[posF m ax x l] := by simp only [e, List.getElem_cons_succ]
   rw [e2]; exact h3
  ·
   have e : posF m ax x (y :: l) = 0 := by conv => lhs; unfold posF
                                           rw [if_neg c]
   have e2 : (y :: l)[posF m ax x (y :: l)] = y := by simp only [e, List.getElem_cons_zero]
   rw [e2]; exact c
theorem ins_perm (m : Msh) (ax : Nat) (l : List Nat) (x : Nat) : (insF m ax l x).Perm (x :: l) := by
 unfold insF
 refine List.perm_middle.trans ?_
 rw [List.take_append_drop]
theorem ins_sorted (m : Msh) (ax x : Nat) : ∀ l : List Nat, l.Pairwise (fun a b => leF m ax a b = true) → (insF m ax l x).Pairwise (fun a b => leF m ax a b = true) := by
 intro l
 induction l with
 | nil => intro _; simp [insF]
 | cons y l ih =>
  intro h
  obtain ⟨h1, h2⟩ := List.pairwise_cons.1 h
  by_cases c : ltF m ax y x = true
  ·
   have e : insF m ax (y :: l) x = y :: insF m ax l x := by
    unfold insF
    have e : posF m ax x (y :: l) = posF m ax x l + 1 := by conv => lhs; unfold posF
                                                            rw [if_pos c]; omega
    rw [e, List.take_succ_cons, List.drop_succ_cons]; rfl
   rw [e]
   refine List.pairwise_cons.2 ⟨fun z hz => ?_, ih h2⟩
   rcases List.mem_cons.1 ((ins_perm m ax l x).mem_iff.1 hz) with rfl | hz
   ·
    exact lt_le c
   ·
    exact h1 z hz
  ·
   have e : insF m ax (y :: l) x = x :: y :: l := by
    unfold insF
    have e : posF m ax x (y :: l) = 0 := by conv => lhs; unfold posF
                                            rw [if_neg c]
    rw [e]; rfl
   rw [e]
   refine List.pairwise_cons.2 ⟨fun z hz => ?_, h⟩
   rcases List.mem_cons.1 hz with rfl | hz
   ·
    exact nlt_le c
   ·
    exact le_trans x y z (nlt_le c) (h1 z hz)
theorem fold_ins (m : Msh) (ax : Nat) : ∀ (l acc : List Nat), acc.Pairwise (fun a b => leF m ax a b = true) → (l.foldl (insF m ax) acc).Pairwise (fun a b => leF m ax a b = true) ∧ (l.foldl (insF m ax) acc).Perm (acc ++ l) := by
 intro l
 induction l with
 | nil => intro acc h; exact ⟨h, by simp⟩
 | cons x l ih =>
  intro acc h
  obtain ⟨a, b⟩ := ih _ (ins_sorted m ax x acc h)
  refine ⟨a, b.trans ?_⟩
  exact ((ins_perm m ax acc x).append_right l).trans (List.perm_middle.symm)
theorem insAll_is (m : Msh) (ax : Nat) (l : List Nat) : insAll m ax l = sortF m ax l := by
 obtain ⟨a, b⟩ := fold_ins m ax l [] List.Pairwise.nil
 rw [List.nil_append] at b
 refine List.Perm.eq_of_pairwise (le := fun a b => leF m ax a b = true) (fun a b _ _ h1 h2 => le_anti h1 h2) a ?_ (b.trans (sort_perm m ax l).symm)
 exact List.pairwise_mergeSort (fun a b c => le_trans a b c) (fun a b => le_total a b) l
theorem insAll_next (m : Msh) (ax : Nat) (l : List Nat) (k : Nat) (h : k < l.length) : insAll m ax (l.take (k + 1)) = insF m ax (insAll m ax (l.take k)) l[k] := by
 unfold insAll
 rw [List.take_add_one, List.getElem?_eq_getElem h, List.foldl_append]; rfl
theorem insAll_len (m : Msh) (ax : Nat) (l : List Nat) : (insAll m ax l).length = l.length := by rw [insAll_is, sort_length]
end Go.Proofs.YtdaokkgenfpmhaaGreat.BvhQ

/- How the document's trees lie in the world: nodes within nodes. -/
set_option linter.unusedVariables false
set_option linter.unusedSimpArgs false
namespace Go.Proofs.YtdaokkgenfpmhaaGreat.BvhO
open Go Go.RowKit Go.Sort Go.Lib FixM Base Num VecW VecV VecU LightQ MeshM Rec MeshA MeshD MeshP HitM HitN HitS BvhM BvhA BvhB BvhS BvhE BvhF BvhQ
/-- a node's cells -/
def ncells (sh : Value) (b : Bx) (kd : Value) : List Value := [sh, .int .i64 b.lo.x, .int .i64 b.lo.y, .int .i64 b.lo.z, .int .i64 b.hi.x, .int .i64 b.hi.y, .int .i64 b.hi.z, kd]
def NodeAt (m : Msh) (w : World) : Tr → List Value → Prop
 | .leaf l, cs => ∃ a n c a2 c2, cs = ncells (.slice a n c) (boxL m l) (.slice a2 0 c2) ∧ Nums .i64 9223372036854775808 w (.slice a n c) l
 | .node l x y, cs => ∃ a n c g off cp cx cy, cs = ncells (.slice a n c) (boxL m l) (.slice (some ⟨g, off, none⟩) 2 cp) ∧ Nums .i64 9223372036854775808 w (.slice a n c) l ∧ g < w.heap.size ∧
   cx.length = 8 ∧ cy.length = 8 ∧ (∀ k v, cx[k]? = some v → w.cell? ⟨g, off + k, none⟩ = some v) ∧ (∀ k v, cy[k]? = some v → w.cell? ⟨g, off + 8 + k, none⟩ = some v) ∧ NodeAt m w x cx ∧ NodeAt m w y cy
theorem NodeAt.below {m : Msh} {w w' : World} (hb : Below w.heap.size w w') : ∀ (T : Tr) (cs : List Value), NodeAt m w T cs → NodeAt m w' T cs := by
 intro T
 induction T with
 | leaf l =>
  rintro cs ⟨a, n, c, a2, c2, e, h⟩
  exact ⟨a, n, c, a2, c2, e, h.below hb (Nat.le_refl _)⟩
 | node l x y ihx ihy =>
  rintro cs ⟨a, n, c, g, off, cp, cx, cy, e, h, hg, l1, l2, h1, h2, hx, hy⟩
  exact ⟨a, n, c, g, off, cp, cx, cy, e, h.below hb (Nat.le_refl _), Nat.lt_of_lt_of_le hg hb.size, l1, l2, fun k v hk => (hb.cell (p := ⟨g, off + k, none⟩) hg).trans (h1 k v hk), fun k v hk => (hb.cell (p := ⟨g, off + 8 + k, none⟩) hg).trans (h2 k v hk), ihx _ hx, ihy _ hy⟩
/-- the cells of a node, whichever it is -/
theorem NodeAt.cells {m : Msh} {w : World} {T : Tr} {cs : List Value} (h : NodeAt m w T cs) : ∃ a n c kd, cs = ncells (.slice a n c) (boxL m T.l) kd ∧ Nums .i64 9223372036854775808 w (.slice a n c) T.l := by
 cases T with
 | leaf l => obtain ⟨a, n, c, a2, c2, e, h⟩ := h; exact ⟨a, n, c, _, e, h⟩
 | node l x y => obtain ⟨a, n, c, g, off, cp, cx, cy, e, h, -⟩ := h; exact ⟨a, n, c, _, e, h⟩
/-- kids -/
def kidsT : Tr → List Tr
 | .leaf _ => []
 | .node _ x y => [x, y]
/-- a slice that reads as nodes -/
def KidsAt (m : Msh) (w : World) (v : Value) (ts : List Tr) : Prop := ∃ a cp, v = .slice a ts.length cp ∧ ∀ i (h : i < ts.length), ∃ b off cs, a = some ⟨b, off, none⟩ ∧ b < w.heap.size ∧ (∀ k x, cs[k]? = some x → w.cell? ⟨b, off + i * 8 + k, none⟩ = some x) ∧ NodeAt m w ts[i] cs
theorem NodeAt.kids {m : Msh} {w : World} {T : Tr} {cs : List Value} (h : NodeAt m w T cs) : ∃ kd, cs[7]? = some kd ∧ KidsAt m w kd (kidsT T) := by
 cases T with
 | leaf l =>
  obtain ⟨a, n, c, a2, c2, e, h⟩ := h
  exact ⟨_, by rw [e]; rfl, a2, c2, rfl, fun i h => by simp [kidsT] at h⟩
 | node l x y =>
  obtain ⟨a, n, c, g, off, cp, cx, cy, e, h, hg, l1, l2, h1, h2, hx, hy⟩ := h
  refine ⟨_, by rw [e]; rfl, some ⟨g, off, none⟩, cp, rfl, fun i hi => ?_⟩
  have hi2 : i = 0 ∨ i = 1 := by have : i < 2 := hi; omega
  rcases hi2 with rfl | rfl
  ·
   exact ⟨g, off, cx, rfl, hg, fun k v hk => by rw [Nat.zero_mul, Nat.add_zero]; exact h1 k v hk, hx⟩
  ·
   exact ⟨g, off, cy, rfl, hg, fun k v hk => by rw [Nat.one_mul]; exact h2 k v hk, hy⟩
theorem KidsAt.below {m : Msh} {w w' : World} {v : Value} {ts : List Tr} (h : KidsAt m w v ts) (hb : Below w.heap.size w w') : KidsAt m w' v ts := by
 obtain ⟨a, cp, e, h⟩ := h
 refine ⟨a, cp, e, fun i hi => ?_⟩
 obtain ⟨b, off, cs, e1, h1, h2, h3⟩ := h i hi
 exact ⟨b, off, cs, e1, Nat.lt_of_lt_of_le h1 hb.size, fun k x hk => (hb.cell (p := ⟨b, off + i * 8 + k, none⟩) h1).trans (h2 k x hk), NodeAt.below hb _ _ h3⟩
/-- what count tells of a row of trees -/
def allN : List Tr → Nat
 | [] => 0
 | t :: l => nodesT t + allN l
def maxD : List Tr → Nat
 | [] => 0
 | t :: l => max (deepT t) (maxD l)
theorem nodes_kids (t : Tr) : nodesT t = 1 + allN (kidsT t) := by
 cases t with
 | leaf l => rfl
 | node l x y => show 1 + nodesT x + nodesT y = 1 + (nodesT x + (nodesT y + 0)); omega
theorem deep_kids (t : Tr) : deepT t = maxD (kidsT t) + 1 := by
 cases t with
 | leaf l => rfl
 | node l x y => show 1 + max (deepT x) (deepT y) = max (deepT x) (max (deepT y) 0) + 1; omega
theorem allN_take (l : List Tr) (k : Nat) (h : k < l.length) : allN (l.take (k + 1)) = allN (l.take k) + nodesT l[k] := by
 induction l generalizing k with
 | nil => simp at h
 | cons t l ih =>
  cases k with
  | zero => simp [allN]
  | succ k =>
   rw [List.take_succ_cons, List.take_succ_cons]
   show nodesT t + allN _ = nodesT t + allN _ + _
   rw [ih k (by simpa using h)]
   simp only [List.getElem_cons_succ]
   omega
theorem maxD_take (l : List Tr) (k : Nat) (h : k < l.length) : maxD (l.take (k + 1)) = max (maxD (l.take k)) (deepT l[k]) := by
 induction l generalizing k with
 | nil => simp at h
 | cons t l ih =>
  cases k with
  | zero => simp [maxD]
  | succ k =>
   rw [List.take_succ_cons, List.take_succ_cons]
   show max (deepT t) (maxD _) = max (max (deepT t) (maxD _)) _
   rw [ih k (by simpa using h)]
   simp only [List.getElem_cons_succ]
   omega
end Go.Proofs.YtdaokkgenfpmhaaGreat.BvhO

