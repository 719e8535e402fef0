/- Plain: the order has each pixel once; the first ones are those of a coarser picture. -/
import Derived.Test.YtighlefajekloaaPngN
set_option linter.unusedVariables false
set_option linter.unusedSimpArgs false
namespace Go.Proofs.Ytighlefajekloaa.PngZ
open PngM PngN
def blockL (w h : Nat) (p : Nat × Nat × Nat × Nat) : List Nat := (rowsP w h p).flatMap pixR
theorem order_blocks (w h : Nat) : orderL w h = passesL.flatMap (blockL w h) := by
  unfold orderL rowsL blockL
  rw [List.flatMap_assoc]
theorem flat_const {α β : Type} (f : α → List β) (c : Nat) (l : List α) (h : ∀ x ∈ l, (f x).length = c) : (l.flatMap f).length = l.length * c := by
  induction l with
  | nil => simp
  | cons x l ih => rw [List.flatMap_cons, List.length_append, h x (List.mem_cons_self ..), ih (fun y hy => h y (List.mem_cons_of_mem _ hy)), List.length_cons, Nat.add_mul]; omega
theorem block_len (w h px py sx sy : Nat) : (blockL w h (px, py, sx, sy)).length = manyP h py sy * manyP w px sx := by
  unfold blockL rowsP
  by_cases h0 : manyP w px sx = 0
  · simp only [h0, if_true]; simp
  · rw [if_neg h0, flat_const _ (manyP w px sx), List.length_map, List.length_range]
    intro x hx
    simp only [List.mem_map] at hx
    obtain ⟨j, -, rfl⟩ := hx
    unfold pixR
    rw [List.length_map, List.length_range]
/-- a pixel of a pass -/
theorem block_mem (w h px py sx sy z : Nat) (hw : 1 ≤ w) (hh : 1 ≤ h) (hpx : px < sx) (hpy : py < sy) (hz : z ∈ blockL w h (px, py, sx, sy)) : z < w * h ∧ z % w % sx = px ∧ z / w % sy = py := by
  unfold blockL rowsP at hz
  by_cases h0 : manyP w px sx = 0
  · simp only [h0, if_true] at hz; simp at hz
  · rw [if_neg h0] at hz
    simp only [List.mem_flatMap, List.mem_map, List.mem_range, pixR] at hz
    obtain ⟨r, ⟨j, hj, rfl⟩, i, hi, rfl⟩ := hz
    simp only at hi ⊢
    have hx := (many_lt w px sx i (by omega) hpx hw).mp hi
    have hy := (many_lt h py sy j (by omega) hpy hh).mp hj
    obtain ⟨x, hxe⟩ : ∃ x, x = px + i * sx := ⟨_, rfl⟩
    obtain ⟨y, hye⟩ : ∃ y, y = py + j * sy := ⟨_, rfl⟩
    rw [← hxe] at hx
    rw [← hye] at hy ⊢
    have e : y * w + px + i * sx = y * w + x := by omega
    rw [e]
    have e1 : (y * w + x) % w = x := by rw [Nat.mul_comm, Nat.mul_add_mod]; exact Nat.mod_eq_of_lt hx
    have e2 : (y * w + x) / w = y := by rw [Nat.mul_comm, Nat.mul_add_div (by omega), Nat.div_eq_of_lt hx]; rfl
    rw [e1, e2]
    refine ⟨?_, ?_, ?_⟩
    · have h1 : (y + 1) * w ≤ h * w := Nat.mul_le_mul_right _ hy
      rw [Nat.add_mul, Nat.one_mul] at h1
      rw [Nat.mul_comm w h]; omega
    · rw [hxe, Nat.add_mul_mod_self_right]; exact Nat.mod_eq_of_lt hpx
    · rw [hye, Nat.add_mul_mod_self_right]; exact Nat.mod_eq_of_lt hpy
theorem passes_small (p : Nat × Nat × Nat × Nat) (hp : p ∈ passesL) : p.1 < p.2.2.1 ∧ p.2.1 < p.2.2.2 := by
  revert p; decide
theorem block_mem' (w h : Nat) (p : Nat × Nat × Nat × Nat) (z : Nat) (hw : 1 ≤ w) (hh : 1 ≤ h) (hp : p ∈ passesL) (hz : z ∈ blockL w h p) : z < w * h ∧ z % w % p.2.2.1 = p.1 ∧ z / w % p.2.2.2 = p.2.1 := by
  obtain ⟨px, py, sx, sy⟩ := p
  obtain ⟨h1, h2⟩ := passes_small _ hp
  exact block_mem w h px py sx sy z hw hh h1 h2 hz
theorem block_up (w h px py sx sy : Nat) (hw : 1 ≤ w) (hpx : px < sx) (hpy : py < sy) : (blockL w h (px, py, sx, sy)).Pairwise (· ≠ ·) := by
  unfold blockL rowsP
  by_cases h0 : manyP w px sx = 0
  · simp only [h0, if_true]; simp
  · rw [if_neg h0]
    refine List.Pairwise.imp (R := fun a b => a < b) (fun h => by omega) ?_
    rw [List.pairwise_flatMap]
    refine ⟨fun r hr => ?_, ?_⟩
    · simp only [List.mem_map] at hr
      obtain ⟨j, -, rfl⟩ := hr
      unfold pixR
      rw [List.pairwise_map]
      refine List.Pairwise.imp (fun {a b} hab => ?_) List.pairwise_lt_range
      have := Nat.mul_lt_mul_of_pos_right hab (show 0 < sx by omega)
      simp only
      omega
    · rw [List.pairwise_map]
      refine List.Pairwise.imp (fun {a b} hab x hx y hy => ?_) List.pairwise_lt_range
      simp only [pixR, List.mem_map, List.mem_range] at hx hy
      obtain ⟨i, hi, rfl⟩ := hx
      obtain ⟨k, hk, rfl⟩ := hy
      have h1 := (many_lt w px sx i (by omega) hpx hw).mp hi
      have h3 : (py + a * sy + 1) * w ≤ (py + b * sy) * w := Nat.mul_le_mul_right _ (by
        have := Nat.mul_lt_mul_of_pos_right hab (show 0 < sy by omega); omega)
      rw [Nat.add_mul _ 1, Nat.one_mul] at h3
      omega
theorem passes_apart : passesL.Pairwise (fun p q => ∀ x y : Nat, x % p.2.2.1 = p.1 → y % p.2.2.2 = p.2.1 → x % q.2.2.1 = q.1 → y % q.2.2.2 = q.2.1 → False) := by
  unfold passesL
  simp only [List.pairwise_cons, List.mem_cons, List.not_mem_nil, or_false, forall_eq_or_imp, forall_eq, false_implies, implies_true, List.Pairwise.nil, and_true]
  refine ⟨⟨?_, ?_, ?_, ?_, ?_, ?_⟩, ⟨?_, ?_, ?_, ?_, ?_⟩, ⟨?_, ?_, ?_, ?_⟩, ⟨?_, ?_, ?_⟩, ⟨?_, ?_⟩, ?_⟩ <;> (intro x y h1 h2 h3 h4; omega)
theorem order_nodup (w h : Nat) (hw : 1 ≤ w) (hh : 1 ≤ h) : (orderL w h).Pairwise (· ≠ ·) := by
  rw [order_blocks, List.pairwise_flatMap]
  refine ⟨fun p hp => ?_, ?_⟩
  · obtain ⟨px, py, sx, sy⟩ := p
    obtain ⟨h1, h2⟩ := passes_small _ hp
    exact block_up w h px py sx sy hw h1 h2
  · have hm : ∀ k, (passesL.drop k).Pairwise (fun p q => ∀ x ∈ blockL w h p, ∀ y ∈ blockL w h q, x ≠ y) := by
      intro k
      refine List.Pairwise.imp_of_mem (fun {p q} hp hq hpq x hx y hy e => ?_) (passes_apart.sublist (List.drop_sublist k _))
      subst e
      have h1 := block_mem' w h p x hw hh (List.mem_of_mem_drop hp) hx
      have h2 := block_mem' w h q x hw hh (List.mem_of_mem_drop hq) hy
      exact hpq (x % w) (x / w) h1.2.1 h1.2.2 h2.2.1 h2.2.2
    exact hm 0
theorem order_lt (w h z : Nat) (hw : 1 ≤ w) (hh : 1 ≤ h) (hz : z ∈ orderL w h) : z < w * h := by
  rw [order_blocks, List.mem_flatMap] at hz
  obtain ⟨p, hp, hz⟩ := hz
  exact (block_mem' w h p z hw hh hp hz).1
/-- how many lie on a grid -/
def gridN (w h s : Nat) : Nat := (w + s - 1) / s * ((h + s - 1) / s)
theorem alg (a b c d : Nat) : a * c + a * d + b * (c + d) = (a + b) * (c + d) := by
  rw [Nat.add_mul, Nat.mul_add a]
theorem many_0 (n s : Nat) : manyP n 0 s = (n + s - 1) / s := by unfold manyP; rw [Nat.sub_zero]
theorem halves (n : Nat) : manyP n 0 8 + manyP n 4 8 = manyP n 0 4 ∧ manyP n 0 4 + manyP n 2 4 = manyP n 0 2 ∧ manyP n 0 2 + manyP n 1 2 = manyP n 0 1 ∧ manyP n 0 1 = n := by
  unfold manyP
  refine ⟨?_, ?_, ?_, ?_⟩ <;> omega
def preL (w h k : Nat) : List Nat := (passesL.take k).flatMap (blockL w h)
theorem pre_all (w h k : Nat) : orderL w h = preL w h k ++ (passesL.drop k).flatMap (blockL w h) := by
  unfold preL
  rw [order_blocks, ← List.flatMap_append, List.take_append_drop]
theorem pre_len (w h : Nat) : (preL w h 1).length = gridN w h 8 ∧ (preL w h 3).length = gridN w h 4 ∧ (preL w h 5).length = gridN w h 2 ∧ (preL w h 7).length = gridN w h 1 := by
  obtain ⟨a1, a2, a3, a4⟩ := halves w
  obtain ⟨b1, b2, b3, b4⟩ := halves h
  have g : ∀ s, gridN w h s = manyP h 0 s * manyP w 0 s := fun s => by unfold gridN; rw [many_0, many_0, Nat.mul_comm]
  have e8 : (preL w h 1).length = manyP h 0 8 * manyP w 0 8 := by
    unfold preL passesL
    simp only [List.take_succ_cons, List.take_zero, List.flatMap_cons, List.flatMap_nil, List.length_append, block_len, List.length_nil, Nat.add_zero]
  have e4 : (preL w h 3).length = manyP h 0 8 * manyP w 0 8 + (manyP h 0 8 * manyP w 4 8 + manyP h 4 8 * manyP w 0 4) := by
    unfold preL passesL
    simp only [List.take_succ_cons, List.take_zero, List.flatMap_cons, List.flatMap_nil, List.length_append, block_len, List.length_nil, Nat.add_zero]
  have e2 : (preL w h 5).length = (preL w h 3).length + (manyP h 0 4 * manyP w 2 4 + manyP h 2 4 * manyP w 0 2) := by
    unfold preL passesL
    simp only [List.take_succ_cons, List.take_zero, List.flatMap_cons, List.flatMap_nil, List.length_append, block_len, List.length_nil, Nat.add_zero]
    omega
  have e1 : (preL w h 7).length = (preL w h 5).length + (manyP h 0 2 * manyP w 1 2 + manyP h 1 2 * manyP w 0 1) := by
    unfold preL passesL
    simp only [List.take_succ_cons, List.take_zero, List.flatMap_cons, List.flatMap_nil, List.length_append, block_len, List.length_nil, Nat.add_zero]
    omega
  have f4 : (preL w h 3).length = manyP h 0 4 * manyP w 0 4 := by
    rw [e4, ← Nat.add_assoc, ← a1, ← b1]; exact alg _ _ _ _
  have f2 : (preL w h 5).length = manyP h 0 2 * manyP w 0 2 := by
    rw [e2, f4, ← Nat.add_assoc, ← a2, ← b2]; exact alg _ _ _ _
  have f1 : (preL w h 7).length = manyP h 0 1 * manyP w 0 1 := by
    rw [e1, f2, ← Nat.add_assoc, ← a3, ← b3]; exact alg _ _ _ _
  refine ⟨by rw [e8, g], by rw [f4, g], by rw [f2, g], by rw [f1, g]⟩
theorem order_len (w h : Nat) : (orderL w h).length = w * h := by
  have h1 := (pre_len w h).2.2.2
  have h2 := pre_all w h 7
  rw [h2, show passesL.drop 7 = [] from rfl, List.flatMap_nil, List.append_nil, h1]
  unfold gridN
  rw [Nat.div_one, Nat.div_one]; congr 1
theorem pre_mem (w h k z : Nat) (hw : 1 ≤ w) (hh : 1 ≤ h) (hz : z ∈ preL w h k) : ∃ p ∈ passesL.take k, z % w % p.2.2.1 = p.1 ∧ z / w % p.2.2.2 = p.2.1 := by
  unfold preL at hz
  rw [List.mem_flatMap] at hz
  obtain ⟨p, hp, hz⟩ := hz
  exact ⟨p, hp, (block_mem' w h p z hw hh (List.mem_of_mem_take hp) hz).2⟩
theorem first_of (w h k s i : Nat) (hw : 1 ≤ w) (hh : 1 ≤ h) (hk : (preL w h k).length = gridN w h s) (hs : ∀ p ∈ passesL.take k, ∀ x y : Nat, x % p.2.2.1 = p.1 → y % p.2.2.2 = p.2.1 → x % s = 0 ∧ y % s = 0) (hi : i < gridN w h s) :
    i < w * h ∧ (orderL w h).getD i 0 % w % s = 0 ∧ (orderL w h).getD i 0 / w % s = 0 := by
  have hik : i < (preL w h k).length := by rw [hk]; exact hi
  have e := pre_all w h k
  have hl := order_len w h
  rw [e, List.length_append] at hl
  have eg : (orderL w h).getD i 0 = (preL w h k)[i] := by
    rw [e, List.getD_eq_getElem?_getD, List.getElem?_append_left hik, List.getElem?_eq_getElem hik]; rfl
  obtain ⟨p, hp, h1, h2⟩ := pre_mem w h k _ hw hh (List.getElem_mem hik)
  rw [eg]
  exact ⟨by omega, hs p hp _ _ h1 h2⟩
/-- the first ones -/
theorem order_first (w h s i : Nat) (hw : 1 ≤ w) (hh : 1 ≤ h) (hs : s = 8 ∨ s = 4 ∨ s = 2 ∨ s = 1) (hi : i < gridN w h s) : i < w * h ∧ (orderL w h).getD i 0 % w % s = 0 ∧ (orderL w h).getD i 0 / w % s = 0 := by
  obtain ⟨l1, l3, l5, l7⟩ := pre_len w h
  rcases hs with rfl | rfl | rfl | rfl
  · refine first_of w h 1 8 i hw hh l1 ?_ hi
    intro p hp
    simp only [passesL, List.take_succ_cons, List.take_zero, List.mem_cons, List.not_mem_nil, or_false] at hp
    subst hp
    intro x y h1 h2; exact ⟨h1, h2⟩
  · refine first_of w h 3 4 i hw hh l3 ?_ hi
    intro p hp
    simp only [passesL, List.take_succ_cons, List.take_zero, List.mem_cons, List.not_mem_nil, or_false] at hp
    rcases hp with rfl | rfl | rfl <;> (intro x y h1 h2; simp only at h1 h2; omega)
  · refine first_of w h 5 2 i hw hh l5 ?_ hi
    intro p hp
    simp only [passesL, List.take_succ_cons, List.take_zero, List.mem_cons, List.not_mem_nil, or_false] at hp
    rcases hp with rfl | rfl | rfl | rfl | rfl <;> (intro x y h1 h2; simp only at h1 h2; omega)
  · refine first_of w h 7 1 i hw hh l7 ?_ hi
    intro p hp x y h1 h2
    omega
theorem not_seen (l : List Nat) (hl : l.Pairwise (· ≠ ·)) (i : Nat) (hi : i < l.length) : l[i] ∉ l.take i := by
  rw [← List.take_append_drop i l, List.drop_eq_getElem_cons hi, List.pairwise_append] at hl
  intro hm
  exact hl.2.2 _ hm _ (List.mem_cons_self ..) rfl
end Go.Proofs.Ytighlefajekloaa.PngZ
