/- Trees of boxes: what layer 14 builds, and that the tree finds what the scan finds. Plain. -/
import Derived.Test.YtdaokkgenfpmhaaHitU
set_option linter.unusedVariables false
set_option linter.unusedSimpArgs false
namespace Go.Proofs.Ytdaokkgenfpmhaa.BvhM
open Go FixM VecW VecV VecU MeshM MeshP HitM HitN HitV HitP HitO HitU
/-- the box around two -/
def joinB (a b : Bx) : Bx := ⟨⟨minI a.lo.x b.lo.x, minI a.lo.y b.lo.y, minI a.lo.z b.lo.z⟩, ⟨maxI a.hi.x b.hi.x, maxI a.hi.y b.hi.y, maxI a.hi.z b.hi.z⟩⟩
/-- the box around some shapes -/
def boxL (m : Msh) : List Nat → Bx
  | [] => zeroB
  | i :: l => l.foldl (fun (b : Bx) (j : Nat) => joinB b (boxF m (j : Int))) (boxF m (i : Int))
def axisF (b : Bx) : Nat :=
  if subF b.hi.y b.lo.y ≤ subF b.hi.x b.lo.x ∧ subF b.hi.z b.lo.z ≤ subF b.hi.x b.lo.x then 0
  else if subF b.hi.z b.lo.z ≤ subF b.hi.y b.lo.y then 1 else 2
def keyF (m : Msh) (axis i : Nat) : Int :=
  match axis with
  | 0 => addF (boxF m (i : Int)).lo.x (boxF m (i : Int)).hi.x
  | 1 => addF (boxF m (i : Int)).lo.y (boxF m (i : Int)).hi.y
  | _ => addF (boxF m (i : Int)).lo.z (boxF m (i : Int)).hi.z
def leF (m : Msh) (axis : Nat) (i j : Nat) : Bool := decide (keyF m axis i < keyF m axis j) || (decide (keyF m axis i = keyF m axis j) && decide (i ≤ j))
def sortF (m : Msh) (axis : Nat) (l : List Nat) : List Nat := l.mergeSort (leF m axis)
theorem sort_perm (m : Msh) (axis : Nat) (l : List Nat) : (sortF m axis l).Perm l := List.mergeSort_perm l _
theorem sort_length (m : Msh) (axis : Nat) (l : List Nat) : (sortF m axis l).length = l.length := (sort_perm m axis l).length_eq
inductive Tr where
  | leaf (l : List Nat)
  | node (l : List Nat) (a b : Tr)
def Tr.l : Tr → List Nat
  | .leaf l => l
  | .node l _ _ => l
def treeF (m : Msh) : Nat → List Nat → Tr
  | 0, l => .leaf l
  | n + 1, l => if l.length ≤ 2 then .leaf l else
    .node l (treeF m n ((sortF m (axisF (boxL m l)) l).take (l.length / 2))) (treeF m n ((sortF m (axisF (boxL m l)) l).drop (l.length / 2)))
def stepsT : Tr → Nat
  | .leaf l => l.length
  | .node l a b => l.length + stepsT a + stepsT b
def nodesT : Tr → Nat
  | .leaf _ => 1
  | .node _ a b => 1 + nodesT a + nodesT b
def deepT : Tr → Nat
  | .leaf _ => 1
  | .node _ a b => 1 + max (deepT a) (deepT b)
/-- what a tree of shapes is: each node has the shapes of its kids, each leaf one or two -/
def Tr.good : Tr → Prop
  | .leaf l => 1 ≤ l.length ∧ l.length ≤ 2
  | .node l a b => a.good ∧ b.good ∧ (a.l ++ b.l).Perm l
theorem tree_l (m : Msh) : ∀ n l, (treeF m n l).l = l := by
  intro n l
  cases n with
  | zero => rfl
  | succ n => unfold treeF; split <;> rfl
theorem tree_good (m : Msh) : ∀ n l, l.length ≤ n → 1 ≤ l.length → (treeF m n l).good := by
  intro n
  induction n with
  | zero => intro l h1 h2; omega
  | succ n ih =>
    intro l h1 h2
    unfold treeF
    split
    · rename_i h; exact ⟨h2, h⟩
    · rename_i h
      have hs := sort_length m (axisF (boxL m l)) l
      refine ⟨ih _ (by rw [List.length_take, hs]; omega) (by rw [List.length_take, hs]; omega), ih _ (by rw [List.length_drop, hs]; omega) (by rw [List.length_drop, hs]; omega), ?_⟩
      rw [tree_l, tree_l, List.take_append_drop]
      exact sort_perm m _ l
theorem good_pos : ∀ t : Tr, t.good → 1 ≤ t.l.length := by
  intro t
  induction t with
  | leaf l => intro h; exact h.1
  | node l a b iha ihb =>
    intro h
    have := h.2.2.length_eq
    rw [List.length_append] at this
    have := iha h.1
    show 1 ≤ l.length
    omega
theorem nodes_le : ∀ t : Tr, t.good → nodesT t + 1 ≤ 2 * t.l.length := by
  intro t
  induction t with
  | leaf l => intro h; have := h.1; show 1 + 1 ≤ 2 * l.length; omega
  | node l a b iha ihb =>
    intro h
    have h1 := h.2.2.length_eq
    rw [List.length_append] at h1
    have := iha h.1
    have := ihb h.2.1
    show 1 + nodesT a + nodesT b + 1 ≤ 2 * l.length
    omega
theorem steps_le : ∀ t : Tr, t.good → t.l.length ≤ stepsT t ∧ stepsT t ≤ deepT t * t.l.length := by
  intro t
  induction t with
  | leaf l => intro h; exact ⟨Nat.le_refl _, by show l.length ≤ 1 * l.length; omega⟩
  | node l a b iha ihb =>
    intro h
    have h1 := h.2.2.length_eq
    rw [List.length_append] at h1
    have ha := iha h.1
    have hb := ihb h.2.1
    refine ⟨by show l.length ≤ l.length + stepsT a + stepsT b; omega, ?_⟩
    show l.length + stepsT a + stepsT b ≤ (1 + max (deepT a) (deepT b)) * l.length
    have m1 : deepT a * a.l.length ≤ max (deepT a) (deepT b) * a.l.length := Nat.mul_le_mul_right _ (Nat.le_max_left _ _)
    have m2 : deepT b * b.l.length ≤ max (deepT a) (deepT b) * b.l.length := Nat.mul_le_mul_right _ (Nat.le_max_right _ _)
    rw [Nat.add_mul, Nat.one_mul, ← h1, Nat.mul_add]
    omega
theorem deep_le (m : Msh) : ∀ k n l, l.length ≤ 2 ^ (k + 1) → l.length ≤ n → deepT (treeF m n l) ≤ k + 1 := by
  intro k
  induction k with
  | zero =>
    intro n l h1 h2
    cases n with
    | zero => exact Nat.le_refl _
    | succ n => unfold treeF; rw [if_pos (by simpa using h1)]; exact Nat.le_refl _
  | succ k ih =>
    intro n l h1 h2
    cases n with
    | zero => show 1 ≤ _; omega
    | succ n =>
      unfold treeF
      split
      · show 1 ≤ _; omega
      · rename_i h
        have hs := sort_length m (axisF (boxL m l)) l
        have e : 2 ^ (k + 1 + 1) = 2 ^ (k + 1) + 2 ^ (k + 1) := by rw [Nat.pow_succ, Nat.mul_two]
        have ha := ih n ((sortF m (axisF (boxL m l)) l).take (l.length / 2)) (by rw [List.length_take, hs]; omega) (by rw [List.length_take, hs]; omega)
        have hb := ih n ((sortF m (axisF (boxL m l)) l).drop (l.length / 2)) (by rw [List.length_drop, hs]; omega) (by rw [List.length_drop, hs]; omega)
        show 1 + max _ _ ≤ k + 1 + 1
        have := Nat.max_le.2 ⟨ha, hb⟩
        omega
/-! asking -/
def betterF (h best : Ht) : Bool := decide (best.i < 0) || decide (h.t < best.t) || (decide (h.t = best.t) && decide (h.i < best.i))
def tryF (m : Msh) (r : Ry) (least : Int) (best : Ht) (i : Nat) : Ht :=
  match shapeF m (i : Int) r least with
  | none => best
  | some h => if betterF h best then h else best
def askT (m : Msh) (r : Ry) (least : Int) : Tr → Ht → Ht × Nat
  | .leaf l, best => match boxH r (boxL m l) with
    | none => (best, 1)
    | some near => if 0 ≤ best.i ∧ best.t < near then (best, 1) else (l.foldl (tryF m r least) best, 1 + l.length)
  | .node l a b, best => match boxH r (boxL m l) with
    | none => (best, 1)
    | some near => if 0 ≤ best.i ∧ best.t < near then (best, 1) else
      ((askT m r least b (askT m r least a best).1).1, 1 + (askT m r least a best).2 + (askT m r least b (askT m r least a best).1).2)
theorem bx_trans {a b c : Bx} (h1 : HitO.Bx.le a b) (h2 : HitO.Bx.le b c) : HitO.Bx.le a c := by
  unfold HitO.Bx.le at *; omega
theorem join_left (a b : Bx) : HitO.Bx.le a (joinB a b) := by
  unfold HitO.Bx.le joinB minI maxI; dsimp only; refine ⟨⟨?_, ?_, ?_⟩, ?_, ?_, ?_⟩ <;> split <;> omega
theorem join_right (a b : Bx) : HitO.Bx.le b (joinB a b) := by
  unfold HitO.Bx.le joinB minI maxI; dsimp only; refine ⟨⟨?_, ?_, ?_⟩, ?_, ?_, ?_⟩ <;> split <;> omega
theorem bx_refl (a : Bx) : HitO.Bx.le a a := by unfold HitO.Bx.le; omega
theorem fold_left (m : Msh) (l : List Nat) : ∀ b : Bx, HitO.Bx.le b (l.foldl (fun (b : Bx) (j : Nat) => joinB b (boxF m (j : Int))) b) := by
  induction l with
  | nil => intro b; exact bx_refl b
  | cons x l ih => intro b; exact bx_trans (join_left b _) (ih _)
theorem fold_mem (m : Msh) (l : List Nat) : ∀ b : Bx, ∀ i ∈ l, HitO.Bx.le (boxF m (i : Int)) (l.foldl (fun (b : Bx) (j : Nat) => joinB b (boxF m (j : Int))) b) := by
  induction l with
  | nil => intro b i hi; simp at hi
  | cons x l ih =>
    intro b i hi
    rcases List.mem_cons.1 hi with rfl | hi
    · exact bx_trans (join_right b _) (fold_left m l _)
    · exact ih _ i hi
theorem box_mem (m : Msh) (l : List Nat) (i : Nat) (hi : i ∈ l) : HitO.Bx.le (boxF m (i : Int)) (boxL m l) := by
  cases l with
  | nil => simp at hi
  | cons x l =>
    rcases List.mem_cons.1 hi with rfl | hi
    · exact fold_left m l _
    · exact fold_mem m l _ i hi
/-- a shape that is hit is hit behind where the box around it is entered -/
theorem hit_behind {m : Msh} {l : List Nat} {i : Nat} (hi : i ∈ l) {r : Ry} {least : Int} {h : Ht} (e : shapeF m (i : Int) r least = some h) : ∃ near, boxH r (boxL m l) = some near ∧ near ≤ h.t := by
  obtain ⟨n1, e1, l1⟩ := shape_near e
  obtain ⟨n2, e2, l2⟩ := box_mono (box_mem m l i hi) e1
  exact ⟨n2, e2, Int.le_trans l2 l1⟩
/-- one more shape, wherever it stands -/
theorem best_try {S : Nat → Option Ht} {P : Nat → Prop} {b : Ht} {n : Nat} (hi : ∀ k h, S k = some h → h.i = (k : Int)) (hb : Best S P b) :
    Best S (fun k => P k ∨ k = n) (match S n with | none => b | some h => if betterF h b then h else b) := by
  unfold betterF
  cases hs : S n with
  | none =>
    dsimp only
    rcases hb with ⟨e, h⟩ | ⟨k, pk, sk, h⟩
    · exact .inl ⟨e, fun k hk => hk.elim (h k) (fun e => e ▸ hs)⟩
    · exact .inr ⟨k, .inl pk, sk, fun k' h' hp hq => hp.elim (fun p => h k' h' p hq) (fun e => by rw [e, hs] at hq; cases hq)⟩
  | some x =>
    dsimp only
    have xi := hi n x hs
    rcases hb with ⟨e, h⟩ | ⟨k, pk, sk, h⟩
    · have : b.i < 0 := by rw [e]; decide
      rw [if_pos (by rw [decide_eq_true this]; rfl)]
      refine .inr ⟨n, .inr rfl, hs, fun k' h' hp hq => ?_⟩
      rcases hp with p | e2
      · rw [h k' p] at hq; cases hq
      · subst e2; rw [hs] at hq; cases hq; exact .inr ⟨rfl, Nat.le_refl _⟩
    · have bi := hi k b sk
      by_cases ht : x.t < b.t ∨ (x.t = b.t ∧ x.i < b.i)
      · rw [if_pos (by simp only [Bool.or_eq_true, Bool.and_eq_true, decide_eq_true_eq]; rcases ht with h1 | h1; exact .inl (.inr h1); exact .inr h1)]
        refine .inr ⟨n, .inr rfl, hs, fun k' h' hp hq => ?_⟩
        rcases hp with p | e2
        · have := h k' h' p hq; omega
        · subst e2; rw [hs] at hq; cases hq; exact .inr ⟨rfl, Nat.le_refl _⟩
      · rw [if_neg (by simp only [Bool.or_eq_true, Bool.and_eq_true, decide_eq_true_eq]; omega)]
        refine .inr ⟨k, .inl pk, sk, fun k' h' hp hq => ?_⟩
        rcases hp with p | e2
        · exact h k' h' p hq
        · subst e2; rw [hs] at hq; cases hq; omega
/-- shapes that cannot be nearer -/
theorem best_skip {S : Nat → Option Ht} {P Q : Nat → Prop} {b : Ht} (hb : Best S P b) (hq : ∀ k h, Q k → S k = some h → 0 ≤ b.i ∧ b.t < h.t) : Best S (fun k => P k ∨ Q k) b := by
  rcases hb with ⟨e, h⟩ | ⟨k, pk, sk, h⟩
  · refine .inl ⟨e, fun k hk => hk.elim (h k) (fun q => ?_)⟩
    cases hs : S k with
    | none => rfl
    | some x => have := hq k x q hs; rw [e] at this; have := this.1; unfold htN at this; dsimp only at this; omega
  · exact .inr ⟨k, .inl pk, sk, fun k' h' hp hs => hp.elim (fun p => h k' h' p hs) (fun q => .inl (hq k' h' q hs).2)⟩
theorem fold_best (m : Msh) (r : Ry) (least : Int) (l : List Nat) : ∀ (P : Nat → Prop) (b : Ht), Best (fun k => shapeF m (k : Int) r least) P b → Best (fun k => shapeF m (k : Int) r least) (fun k => P k ∨ k ∈ l) (l.foldl (tryF m r least) b) := by
  induction l with
  | nil => intro P b h; exact best_congr (fun k => by simp) h
  | cons x l ih =>
    intro P b h
    have h2 := best_try (n := x) (shape_in m r least) h
    exact best_congr (fun k => by rw [List.mem_cons, or_assoc]) (ih _ _ h2)
theorem ask_best (m : Msh) (r : Ry) (least : Int) : ∀ (t : Tr), t.good → ∀ (P : Nat → Prop) (b : Ht), Best (fun k => shapeF m (k : Int) r least) P b → Best (fun k => shapeF m (k : Int) r least) (fun k => P k ∨ k ∈ t.l) (askT m r least t b).1 := by
  have skip : ∀ (l : List Nat) (P : Nat → Prop) (b : Ht), Best (fun k => shapeF m (k : Int) r least) P b → (boxH r (boxL m l) = none ∨ ∃ near, boxH r (boxL m l) = some near ∧ 0 ≤ b.i ∧ b.t < near) → Best (fun k => shapeF m (k : Int) r least) (fun k => P k ∨ k ∈ l) b := by
    intro l P b hb hn
    refine best_skip hb (fun k h hk hs => ?_)
    obtain ⟨n, e, hle⟩ := hit_behind hk hs
    rcases hn with hn | ⟨near, hn, h1, h2⟩
    · rw [hn] at e; cases e
    · rw [hn] at e; cases e; exact ⟨h1, by omega⟩
  intro t
  induction t with
  | leaf l =>
    intro hg P b hb
    unfold askT
    cases e : boxH r (boxL m l) with
    | none => exact skip l P b hb (.inl e)
    | some near =>
      dsimp only
      split
      · rename_i h; exact skip l P b hb (.inr ⟨near, e, h.1, h.2⟩)
      · exact fold_best m r least l P b hb
  | node l x y ihx ihy =>
    intro hg P b hb
    unfold askT
    cases e : boxH r (boxL m l) with
    | none => exact skip l P b hb (.inl e)
    | some near =>
      dsimp only
      split
      · rename_i h; exact skip l P b hb (.inr ⟨near, e, h.1, h.2⟩)
      · have := ihy hg.2.1 _ _ (ihx hg.1 P b hb)
        refine best_congr (fun k => ?_) this
        have hm : k ∈ x.l ++ y.l ↔ k ∈ l := hg.2.2.mem_iff
        rw [or_assoc, ← List.mem_append, hm]
        exact Iff.rfl
theorem ask_cost (m : Msh) (r : Ry) (least : Int) : ∀ (t : Tr), t.good → ∀ b, (askT m r least t b).2 ≤ nodesT t + t.l.length := by
  intro t
  induction t with
  | leaf l =>
    intro hg b
    unfold askT
    cases e : boxH r (boxL m l) with
    | none => show 1 ≤ 1 + l.length; omega
    | some near => dsimp only; split; show 1 ≤ 1 + l.length; omega; exact Nat.le_refl _
  | node l x y ihx ihy =>
    intro hg b
    have h1 := hg.2.2.length_eq
    rw [List.length_append] at h1
    unfold askT
    cases e : boxH r (boxL m l) with
    | none => show 1 ≤ 1 + nodesT x + nodesT y + l.length; omega
    | some near =>
      dsimp only
      split
      · show 1 ≤ 1 + nodesT x + nodesT y + l.length; omega
      · have := ihx hg.1 b
        have := ihy hg.2.1 (askT m r least x b).1
        show _ ≤ 1 + nodesT x + nodesT y + l.length
        dsimp only
        omega
/-! the whole tree -/
def allL (m : Msh) : List Nat := List.range (m.ts.length + m.bs.length)
def wholeT (m : Msh) : Tr := treeF m (m.ts.length + m.bs.length) (allL m)
def nearestF (m : Msh) (r : Ry) (least : Int) : Ht × Nat := if m.ts.length + m.bs.length = 0 then (htN, 0) else askT m r least (wholeT m) htN
theorem whole_good (m : Msh) (h : m.ts.length + m.bs.length ≠ 0) : (wholeT m).good := tree_good m _ _ (by unfold allL; rw [List.length_range]; exact Nat.le_refl _) (by unfold allL; rw [List.length_range]; omega)
theorem whole_l (m : Msh) : (wholeT m).l = allL m := tree_l m _ _
/-- the tree finds what the scan finds -/
theorem nearest_scan (m : Msh) (r : Ry) (least : Int) : (nearestF m r least).1 = scanF m r least := by
  unfold nearestF
  by_cases h : m.ts.length + m.bs.length = 0
  · rw [if_pos h]
    exact best_unique (P := fun k => k < m.ts.length + m.bs.length) (best_congr (fun k => ⟨fun h => h.elim, fun h2 => by omega⟩) (best_none _)) (scanF_best m r least)
  · rw [if_neg h]
    refine best_unique (best_congr (fun k => ?_) (ask_best m r least (wholeT m) (whole_good m h) _ htN (best_none _))) (scanF_best m r least)
    rw [whole_l]
    unfold allL
    rw [List.mem_range]
    exact ⟨fun h => h.elim (fun f => f.elim) id, .inr⟩
theorem nearest_cost (m : Msh) (r : Ry) (least : Int) (h : m.ts.length + m.bs.length ≠ 0) : (nearestF m r least).2 ≤ nodesT (wholeT m) + (m.ts.length + m.bs.length) := by
  unfold nearestF
  rw [if_neg h]
  have := ask_cost m r least (wholeT m) (whole_good m h) htN
  rw [whole_l] at this
  unfold allL at this
  rw [List.length_range] at this
  exact this
end Go.Proofs.Ytdaokkgenfpmhaa.BvhM
