/- Rows of balls, and how great their trees are. Plain. -/
import Derived.Test.YtdaokkgenfpmhaaBvhF
set_option linter.unusedVariables false
set_option linter.unusedSimpArgs false
namespace Go.Proofs.Ytdaokkgenfpmhaa.BvhJ
open Go FixM VecW VecV VecU MeshM MeshP HitM HitN HitV HitP HitO HitU BvhM BvhS BvhE BvhF
/-! a tree's size hangs on how many shapes there are alone -/
def stL : Nat → Nat → Nat
  | 0, k => k
  | n + 1, k => if k ≤ 2 then k else k + stL n (k / 2) + stL n (k - k / 2)
def ndL : Nat → Nat → Nat
  | 0, _ => 1
  | n + 1, k => if k ≤ 2 then 1 else 1 + ndL n (k / 2) + ndL n (k - k / 2)
def dpL : Nat → Nat → Nat
  | 0, _ => 1
  | n + 1, k => if k ≤ 2 then 1 else 1 + max (dpL n (k / 2)) (dpL n (k - k / 2))
theorem size_len (m : Msh) : ∀ n l, stepsT (treeF m n l) = stL n l.length ∧ nodesT (treeF m n l) = ndL n l.length ∧ deepT (treeF m n l) = dpL n l.length := by
  intro n
  induction n with
  | zero => intro l; exact ⟨rfl, rfl, rfl⟩
  | succ n ih =>
    intro l
    unfold treeF stL ndL dpL
    by_cases h : l.length ≤ 2
    · rw [if_pos h, if_pos h, if_pos h, if_pos h]; exact ⟨rfl, rfl, rfl⟩
    · rw [if_neg h, if_neg h, if_neg h, if_neg h]
      have hs := sort_length m (axisF (boxL m l)) l
      have a := ih ((sortF m (axisF (boxL m l)) l).take (l.length / 2))
      have b := ih ((sortF m (axisF (boxL m l)) l).drop (l.length / 2))
      have e1 : ((sortF m (axisF (boxL m l)) l).take (l.length / 2)).length = l.length / 2 := by rw [List.length_take, hs]; omega
      have e2 : ((sortF m (axisF (boxL m l)) l).drop (l.length / 2)).length = l.length - l.length / 2 := by rw [List.length_drop, hs]
      rw [e1] at a
      rw [e2] at b
      refine ⟨?_, ?_, ?_⟩
      · show l.length + stepsT _ + stepsT _ = _; rw [a.1, b.1]
      · show 1 + nodesT _ + nodesT _ = _; rw [a.2.1, b.2.1]
      · show 1 + max (deepT _) (deepT _) = _; rw [a.2.2, b.2.2]
theorem whole_size (m : Msh) : stepsT (wholeT m) = stL (cntM m) (cntM m) ∧ nodesT (wholeT m) = ndL (cntM m) (cntM m) ∧ deepT (wholeT m) = dpL (cntM m) (cntM m) := by
  have := size_len m (cntM m) (allL m)
  have e : (allL m).length = cntM m := by unfold allL; rw [List.length_range]; rfl
  rw [e] at this
  exact this
theorem steps_is (m : Msh) : stepsM m = if cntM m = 0 then 0 else stL (cntM m) (cntM m) := by unfold stepsM; rw [(whole_size m).1]
theorem deep_is (m : Msh) : deepM m = if cntM m = 0 then 0 else dpL (cntM m) (cntM m) := by unfold deepM; rw [(whole_size m).2.2]
theorem nodes_is (m : Msh) : (flatM m).length = if cntM m = 0 then 0 else ndL (cntM m) (cntM m) := by
  unfold flatM
  by_cases h : cntM m = 0
  · rw [if_pos h, if_pos h]; rfl
  · rw [if_neg h, if_neg h, flat_length, (whole_size m).2.1]
/-! a row of balls -/
def rowB (i : Nat) : B4 := ⟨⟨(i : Int) * 42949672960, 0, 0⟩, 4294967296⟩
def rowM (n : Nat) : Msh := ⟨[], [], (List.range n).map rowB⟩
theorem row_len (n : Nat) : (rowM n).bs.length = n := by simp [rowM]
theorem row_cnt (n : Nat) : cntM (rowM n) = n := by unfold cntM; rw [row_len]; simp [rowM]
theorem row_next (n : Nat) : (List.range (n + 1)).map rowB = (List.range n).map rowB ++ [rowB n] := by rw [List.range_succ, List.map_append]; rfl
theorem row_ball (n : Nat) (hn : n ≤ 4096) (i : Nat) (hi : i < n) : ballF (rowB i) = true := by
  unfold ballF rowB nearV nearI
  simp only [Bool.and_eq_true, decide_eq_true_eq]
  refine ⟨⟨⟨⟨⟨?_, ?_⟩, ?_, ?_⟩, ?_, ?_⟩, ?_⟩, ?_⟩ <;> omega
theorem row_check (n : Nat) (hn : n ≤ 4096) : checkF (rowM n) = 0 := by
  unfold checkF
  have h1 : ¬ tooF (rowM n) := by unfold tooF; rw [row_len]; simp [rowM]; omega
  rw [if_neg h1]
  have h2 : rightF (rowM n) = true := by
    unfold rightF rowM
    simp only [List.all_nil, Bool.true_and, List.all_eq_true]
    intro b hb
    obtain ⟨i, hi, rfl⟩ := List.mem_map.1 hb
    exact row_ball n hn i (by simpa using hi)
  rw [if_pos h2]
theorem row_ok (n : Nat) (hn : n ≤ 4096) : (rowM n).ok := by
  refine ⟨by simp [rowM], by simp [rowM], fun b hb => ?_⟩
  obtain ⟨i, hi, rfl⟩ := List.mem_map.1 hb
  have : i < n := by simpa using hi
  unfold rowB V3.ok In
  dsimp only
  omega
def downR (x : Int) : Ry := ⟨⟨x * 4294967296, 0, -21474836480⟩, ⟨0, 0, 4294967296⟩⟩
theorem ask_none (m : Msh) (r : Ry) (least : Int) (T : Tr) (h : Ht) (hs : boxH r (boxL m T.l) = none) : askT m r least T h = (h, 1) := by
  cases T with
  | leaf l =>
    have e' : boxH r (boxL m l) = none := hs
    unfold askT; rw [e']
  | node l a b =>
    have e' : boxH r (boxL m l) = none := hs
    unfold askT; rw [e']
theorem near_miss (m : Msh) (r : Ry) (least : Int) (hc : cntM m ≠ 0) (hs : boxH r (boxL m (allL m)) = none) : nearestF m r least = (htN, 1) := by
  have h' : ¬ m.ts.length + m.bs.length = 0 := hc
  unfold nearestF
  rw [if_neg h']
  exact ask_none m r least _ _ (by rw [whole_l]; exact hs)
theorem awake_miss : boxH (downR (-50)) (boxL (rowM 3) (allL (rowM 3))) = none := by decide +kernel
theorem awake_steps : stepsM (rowM 3) = 6 := by rw [steps_is, row_cnt]; rfl
theorem awake_deep : deepM (rowM 3) = 2 := by rw [deep_is, row_cnt]; rfl
theorem awake_nodes : (flatM (rowM 3)).length = 3 := by rw [nodes_is, row_cnt]; rfl
theorem awake_near : nearestF (rowM 3) (downR (-50)) 0 = (htN, 1) := near_miss _ _ _ (by rw [row_cnt]; decide) awake_miss
def noneM : Msh := ⟨[], [], []⟩
theorem none_check : checkF noneM = 0 := by decide
theorem none_steps : stepsM noneM = 0 := rfl
theorem none_nodes : flatM noneM = [] := rfl
end Go.Proofs.Ytdaokkgenfpmhaa.BvhJ
