/- Asking a tree that lies in a row, by a stack of nodes that are still to be asked. Plain. -/
import Derived.Test.YtdaokkgenfpmhaaBvhE
set_option linter.unusedVariables false
set_option linter.unusedSimpArgs false
namespace Go.Proofs.Ytdaokkgenfpmhaa.BvhF
open Go FixM VecW VecV VecU MeshM MeshP HitM HitN HitV HitP HitO HitU BvhM BvhS BvhE
structure Pd where
  T : Tr
  i : Nat
  f : Nat
def Lies (m : Msh) (ns : List Nd) (ord : List Nat) (p : Pd) : Prop := (∀ k, k < nodesT p.T → ns[p.i + k]? = (flatN m p.T p.i p.f)[k]?) ∧ (∀ k, k < (leavesT p.T).length → ord[p.f + k]? = (leavesT p.T)[k]?) ∧ p.T.good
theorem nodes_pos : ∀ t : Tr, 1 ≤ nodesT t := by intro t; cases t <;> (unfold nodesT; omega)
theorem Lies.leaf {m : Msh} {ns : List Nd} {ord : List Nat} {l : List Nat} {i f : Nat} (h : Lies m ns ord ⟨.leaf l, i, f⟩) : ns[i]? = some ⟨boxL m l, f, f + l.length, -1, -1⟩ := h.1 0 (nodes_pos _)
theorem Lies.node {m : Msh} {ns : List Nd} {ord : List Nat} {l : List Nat} {a b : Tr} {i f : Nat} (h : Lies m ns ord ⟨.node l a b, i, f⟩) : ns[i]? = some ⟨boxL m l, f, f + l.length, ((i + 1 : Nat) : Int), ((i + 1 + nodesT a : Nat) : Int)⟩ := h.1 0 (nodes_pos _)
theorem Lies.left {m : Msh} {ns : List Nd} {ord : List Nat} {l : List Nat} {a b : Tr} {i f : Nat} (h : Lies m ns ord ⟨.node l a b, i, f⟩) : Lies m ns ord ⟨a, i + 1, f⟩ := by
  obtain ⟨h1, h2, h3⟩ := h
  refine ⟨fun k hk => ?_, fun k hk => ?_, h3.1⟩
  · have := h1 (k + 1) (by show k + 1 < 1 + nodesT a + nodesT b; have : k < nodesT a := hk; omega)
    dsimp only at this ⊢
    rw [show i + 1 + k = i + (k + 1) by omega, this, flat_node, List.getElem?_cons_succ, List.getElem?_append_left (by rw [flat_length]; exact hk)]
  · have hk' : k < (leavesT a).length := hk
    have := h2 k (by show k < (leavesT a ++ leavesT b).length; rw [List.length_append]; omega)
    dsimp only at this ⊢
    rw [this, leaves_node, List.getElem?_append_left hk']
theorem Lies.right {m : Msh} {ns : List Nd} {ord : List Nat} {l : List Nat} {a b : Tr} {i f : Nat} (h : Lies m ns ord ⟨.node l a b, i, f⟩) : Lies m ns ord ⟨b, i + 1 + nodesT a, f + a.l.length⟩ := by
  obtain ⟨h1, h2, h3⟩ := h
  have hl := leaves_length a h3.1
  refine ⟨fun k hk => ?_, fun k hk => ?_, h3.2.1⟩
  · have := h1 (1 + nodesT a + k) (by show 1 + nodesT a + k < 1 + nodesT a + nodesT b; have : k < nodesT b := hk; omega)
    dsimp only at this ⊢
    rw [show i + 1 + nodesT a + k = i + (1 + nodesT a + k) by omega, this, flat_node, show 1 + nodesT a + k = (nodesT a + k) + 1 by omega, List.getElem?_cons_succ, List.getElem?_append_right (by rw [flat_length]; omega), flat_length]
    congr 1; omega
  · have hk' : k < (leavesT b).length := hk
    have := h2 (a.l.length + k) (by show a.l.length + k < (leavesT a ++ leavesT b).length; rw [List.length_append]; omega)
    dsimp only at this ⊢
    rw [show f + a.l.length + k = f + (a.l.length + k) by omega, this, leaves_node, List.getElem?_append_right (by omega), hl]
    congr 1; omega
theorem Lies.part {m : Msh} {ns : List Nd} {ord : List Nat} {l : List Nat} {i f : Nat} (h : Lies m ns ord ⟨.leaf l, i, f⟩) : 1 ≤ l.length ∧ l.length ≤ 2 ∧ f + l.length ≤ ord.length ∧ ∀ k (hk : k < l.length), ord[f + k]? = some l[k] := by
  obtain ⟨h1, h2, h3⟩ := h
  have hc : ∀ k (hk : k < l.length), ord[f + k]? = some l[k] := fun k hk => by rw [h2 k hk]; exact List.getElem?_eq_getElem hk
  refine ⟨h3.1, h3.2, ?_, hc⟩
  have := hc (l.length - 1) (by have := h3.1; omega)
  have := (List.getElem?_eq_some_iff.1 this).1
  have := h3.1
  omega
theorem lies_whole (m : Msh) (h : cntM m ≠ 0) : Lies m (flatM m) (ordM m) ⟨wholeT m, 0, 0⟩ := by
  refine ⟨fun k hk => ?_, fun k hk => ?_, whole_good m h⟩
  · unfold flatM; rw [if_neg h, Nat.zero_add]
  · unfold ordM; rw [if_neg h, Nat.zero_add]
def ansS (m : Msh) (r : Ry) (least : Int) : List Pd → Ht → Nat → Ht × Nat
  | [], h, c => (h, c)
  | p :: ss, h, c => ansS m r least ss (askT m r least p.T h).1 (c + (askT m r least p.T h).2)
theorem ans_skip (m : Msh) (r : Ry) (least : Int) (p : Pd) (ss : List Pd) (h : Ht) (c : Nat) (hs : boxH r (boxL m p.T.l) = none ∨ ∃ near, boxH r (boxL m p.T.l) = some near ∧ 0 ≤ h.i ∧ h.t < near) : ansS m r least (p :: ss) h c = ansS m r least ss h (c + 1) := by
  have e : askT m r least p.T h = (h, 1) := by
    obtain ⟨T, i, f⟩ := p
    dsimp only at hs ⊢
    cases T with
    | leaf l =>
      unfold askT
      rcases hs with e | ⟨near, e, h1, h2⟩
      · have e' : boxH r (boxL m l) = none := e
        rw [e']
      · have e' : boxH r (boxL m l) = some near := e
        rw [e']; dsimp only; rw [if_pos ⟨h1, h2⟩]
    | node l a b =>
      unfold askT
      rcases hs with e | ⟨near, e, h1, h2⟩
      · have e' : boxH r (boxL m l) = none := e
        rw [e']
      · have e' : boxH r (boxL m l) = some near := e
        rw [e']; dsimp only; rw [if_pos ⟨h1, h2⟩]
  show ansS m r least ss _ _ = _
  rw [e]
theorem ans_leaf (m : Msh) (r : Ry) (least : Int) (l : List Nat) (i f : Nat) (ss : List Pd) (h : Ht) (c : Nat) (near : Int) (e : boxH r (boxL m l) = some near) (hn : ¬ (0 ≤ h.i ∧ h.t < near)) : ansS m r least (⟨.leaf l, i, f⟩ :: ss) h c = ansS m r least ss (l.foldl (tryF m r least) h) (c + 1 + l.length) := by
  have e2 : askT m r least (.leaf l) h = (l.foldl (tryF m r least) h, 1 + l.length) := by
    unfold askT; rw [e]; dsimp only; rw [if_neg hn]
  show ansS m r least ss _ _ = _
  rw [e2, Nat.add_assoc]
theorem ans_node (m : Msh) (r : Ry) (least : Int) (l : List Nat) (a b : Tr) (i f : Nat) (ss : List Pd) (h : Ht) (c : Nat) (near : Int) (e : boxH r (boxL m l) = some near) (hn : ¬ (0 ≤ h.i ∧ h.t < near)) (ia fa ib fb : Nat) : ansS m r least (⟨.node l a b, i, f⟩ :: ss) h c = ansS m r least (⟨a, ia, fa⟩ :: ⟨b, ib, fb⟩ :: ss) h (c + 1) := by
  have e2 : askT m r least (.node l a b) h = ((askT m r least b (askT m r least a h).1).1, 1 + (askT m r least a h).2 + (askT m r least b (askT m r least a h).1).2) := by
    conv => lhs; unfold askT
    rw [e]; dsimp only; rw [if_neg hn]
  show ansS m r least ss _ _ = ansS m r least ss _ _
  rw [e2]
  dsimp only
  congr 1
  omega
/-- how much is still to be asked -/
def wt : List Pd → Nat
  | [] => 0
  | p :: ss => nodesT p.T + wt ss
/-- what the rest costs at most -/
def cst : List Pd → Nat
  | [] => 0
  | p :: ss => nodesT p.T + p.T.l.length + cst ss
/-- the stack fits -/
def Fit : List Pd → Prop
  | [] => True
  | p :: ss => ss.length + deepT p.T ≤ 32 ∧ Fit ss
theorem fit_kids {l : List Nat} {a b : Tr} {i f ia fa ib fb : Nat} {ss : List Pd} (h : Fit (⟨.node l a b, i, f⟩ :: ss)) : Fit (⟨a, ia, fa⟩ :: ⟨b, ib, fb⟩ :: ss) ∧ ss.length + 1 < 32 := by
  obtain ⟨h1, h2⟩ := h
  have e : deepT (.node l a b) = 1 + max (deepT a) (deepT b) := rfl
  dsimp only at h1
  have := deep_pos a
  have := deep_pos b
  refine ⟨⟨?_, ?_, h2⟩, by omega⟩
  · show ss.length + 1 + deepT a ≤ 32; omega
  · show ss.length + deepT b ≤ 32; omega
theorem wt_kids (l : List Nat) (a b : Tr) (i f ia fa ib fb : Nat) (ss : List Pd) : wt (⟨a, ia, fa⟩ :: ⟨b, ib, fb⟩ :: ss) < wt (⟨.node l a b, i, f⟩ :: ss) := by
  show nodesT a + (nodesT b + wt ss) < 1 + nodesT a + nodesT b + wt ss
  omega
theorem cst_kids {l : List Nat} {a b : Tr} (i f ia fa ib fb : Nat) (ss : List Pd) (h : (Tr.node l a b).good) : cst (⟨a, ia, fa⟩ :: ⟨b, ib, fb⟩ :: ss) + 1 = cst (⟨.node l a b, i, f⟩ :: ss) := by
  have e := h.2.2.length_eq
  rw [List.length_append] at e
  show nodesT a + a.l.length + (nodesT b + b.l.length + cst ss) + 1 = 1 + nodesT a + nodesT b + l.length + cst ss
  omega
theorem wt_drop (p : Pd) (ss : List Pd) : wt ss < wt (p :: ss) := by show wt ss < nodesT p.T + wt ss; have := nodes_pos p.T; omega
theorem whole_deep (m : Msh) (hl : cntM m ≤ 4096) : deepT (wholeT m) ≤ 12 := deep_le m 11 _ _ (by unfold allL; rw [List.length_range]; exact hl) (by unfold allL; rw [List.length_range]; exact Nat.le_refl _)
theorem ans_whole (m : Msh) (r : Ry) (least : Int) (h : cntM m ≠ 0) : ansS m r least [⟨wholeT m, 0, 0⟩] htN 0 = nearestF m r least := by
  have h' : ¬ m.ts.length + m.bs.length = 0 := h
  unfold nearestF
  rw [if_neg h']
  show (_, 0 + _) = _
  rw [Nat.zero_add]
theorem fit_whole (m : Msh) (hl : cntM m ≤ 4096) : Fit [⟨wholeT m, 0, 0⟩] := ⟨by have := whole_deep m hl; show 0 + deepT (wholeT m) ≤ 32; omega, trivial⟩
theorem ans_none (m : Msh) (r : Ry) (least : Int) (h : cntM m = 0) : nearestF m r least = (htN, 0) := by
  have h' : m.ts.length + m.bs.length = 0 := h
  unfold nearestF; rw [if_pos h']
theorem cst_whole (m : Msh) (h : cntM m ≠ 0) (hl : cntM m ≤ 4096) : cst [⟨wholeT m, 0, 0⟩] ≤ 100000 := by
  have hg := whole_good m h
  have h1 := nodes_le _ hg
  have h2 : (wholeT m).l.length = cntM m := by rw [whole_l]; unfold allL; rw [List.length_range]; rfl
  show nodesT (wholeT m) + (wholeT m).l.length + 0 ≤ 100000
  omega
/-- the loop's plain state -/
structure Lo (m : Msh) (ns : List Nd) (ord : List Nat) (an : List Pd → Ht → Nat → Ht × Nat) (res : Ht × Nat) (ss : List Pd) (best : Ht) (c : Nat) : Prop where
  lies : ∀ p ∈ ss, Lies m ns ord p
  fit : Fit ss
  ans : an ss best c = res
  bd : c + cst ss ≤ 100000
theorem ord_lt (m : Msh) (i : Nat) (h : i ∈ ordM m) : i < cntM m := by
  unfold ordM at h
  by_cases hc : cntM m = 0
  · rw [if_pos hc] at h; simp at h
  · rw [if_neg hc] at h
    have := (leaves_perm _ (whole_good m hc)).mem_iff.1 h
    rw [whole_l] at this
    unfold allL at this
    rw [List.mem_range] at this
    exact this
end Go.Proofs.Ytdaokkgenfpmhaa.BvhF
