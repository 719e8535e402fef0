/- The walks of SmallMesh, CopyMesh, SameMesh, of, within, small. -/
import Derived.Test.YtdmmjmdnljhooaaMeshEq
import Derived.Test.YtdmmjmdnljhooaaMeshL
import Derived.Test.YtdmmjmdnljhooaaMeshQ
set_option linter.unusedVariables false
set_option linter.unusedSimpArgs false
namespace Go.Proofs.Ytdmmjmdnljhooaa.MeshS
open Go.RowKit Go.Sort FixM Base Num FixW Qb Qt Qa VecW VecV VecU LightQ LightC MeshM Rec MeshA MeshB MeshC MeshD MeshE MeshP MeshEq MeshL
theorem recs_row {α : Type} {c : Nat} {enc : α → List Value} (hlen : ∀ x, (enc x).length = c) (E : Nat) (w : World) (l : List α) (row : Array Value) (hr : row.toList = l.flatMap enc) (hm : l.length ≤ maxLen) : Recs c enc (w.alloc (.cells row E)) (.slice (some ⟨w.heap.size, 0, none⟩) l.length l.length) l where
  shape := ⟨_, l.length, rfl, Nat.le_refl _, hm, fun e => by simp at e⟩
  cells := fun _ => ⟨w.heap.size, 0, l.length, rfl, by simp, fun i hi k y hy => by
    have hk : k < c := by
      rcases Nat.lt_or_ge k c with h | h
      · exact h
      · rw [List.getElem?_eq_none (by rw [hlen]; exact h)] at hy; simp at hy
    rw [cell_of_row _ w.heap.size _ row E (0, 0) (heap_alloc_new _ _), Nat.zero_add]
    have e : row[i * c + k]? = (l.flatMap enc)[i * c + k]? := by rw [← hr]; simp
    rw [e, flat_at hlen l i k hi hk]; exact hy⟩

set_option maxRecDepth 100000 in
theorem of_100 (w : World) : Calls Try.prog 35 #[.int .i64 1, .int .i64 0, .int .i64 0] w (VTo (vecV ⟨4294967296, 0, 0⟩) w) := by
  go_enter Try.func35, Try.ntmps35
  go_wp2_with (with_reducible refine store_vec rfl (.tmp 6) (.tmp 13) rfl rfl w.heap.size 4294967296 0 0 rfl rfl _ _ _ (heap_alloc_new _ _) ?_)
  refine bodyPost_ret (results_cell_row rfl _ _ w.heap.size 23 _ _ _ rfl (setRow_heap _ _ _ _ _ _ (heap_alloc_new _ _)) Try.underlying23 rfl vec_size) rfl ?_
  exact ⟨rfl, put_ext _ _ _⟩

set_option maxRecDepth 100000 in
theorem of_020 (w : World) : Calls Try.prog 35 #[.int .i64 0, .int .i64 2, .int .i64 0] w (VTo (vecV ⟨0, 8589934592, 0⟩) w) := by
  go_enter Try.func35, Try.ntmps35
  go_wp2_with (with_reducible refine store_vec rfl (.tmp 6) (.tmp 13) rfl rfl w.heap.size 0 8589934592 0 rfl rfl _ _ _ (heap_alloc_new _ _) ?_)
  refine bodyPost_ret (results_cell_row rfl _ _ w.heap.size 23 _ _ _ rfl (setRow_heap _ _ _ _ _ _ (heap_alloc_new _ _)) Try.underlying23 rfl vec_size) rfl ?_
  exact ⟨rfl, put_ext _ _ _⟩

set_option maxRecDepth 100000 in
theorem of_111 (w : World) : Calls Try.prog 35 #[.int .i64 1, .int .i64 1, .int .i64 1] w (VTo (vecV ⟨4294967296, 4294967296, 4294967296⟩) w) := by
  go_enter Try.func35, Try.ntmps35
  go_wp2_with (with_reducible refine store_vec rfl (.tmp 6) (.tmp 13) rfl rfl w.heap.size 4294967296 4294967296 4294967296 rfl rfl _ _ _ (heap_alloc_new _ _) ?_)
  refine bodyPost_ret (results_cell_row rfl _ _ w.heap.size 23 _ _ _ rfl (setRow_heap _ _ _ _ _ _ (heap_alloc_new _ _)) Try.underlying23 rfl vec_size) rfl ?_
  exact ⟨rfl, put_ext _ _ _⟩

set_option maxRecDepth 100000 in
theorem of_120 (w : World) : Calls Try.prog 35 #[.int .i64 1, .int .i64 2, .int .i64 0] w (VTo (vecV ⟨4294967296, 8589934592, 0⟩) w) := by
  go_enter Try.func35, Try.ntmps35
  go_wp2_with (with_reducible refine store_vec rfl (.tmp 6) (.tmp 13) rfl rfl w.heap.size 4294967296 8589934592 0 rfl rfl _ _ _ (heap_alloc_new _ _) ?_)
  refine bodyPost_ret (results_cell_row rfl _ _ w.heap.size 23 _ _ _ rfl (setRow_heap _ _ _ _ _ _ (heap_alloc_new _ _)) Try.underlying23 rfl vec_size) rfl ?_
  exact ⟨rfl, put_ext _ _ _⟩

set_option maxRecDepth 100000 in
theorem of_222 (w : World) : Calls Try.prog 35 #[.int .i64 2, .int .i64 2, .int .i64 2] w (VTo (vecV ⟨8589934592, 8589934592, 8589934592⟩) w) := by
  go_enter Try.func35, Try.ntmps35
  go_wp2_with (with_reducible refine store_vec rfl (.tmp 6) (.tmp 13) rfl rfl w.heap.size 8589934592 8589934592 8589934592 rfl rfl _ _ _ (heap_alloc_new _ _) ?_)
  refine bodyPost_ret (results_cell_row rfl _ _ w.heap.size 23 _ _ _ rfl (setRow_heap _ _ _ _ _ _ (heap_alloc_new _ _)) Try.underlying23 rfl vec_size) rfl ?_
  exact ⟨rfl, put_ext _ _ _⟩

set_option maxRecDepth 100000 in
set_option maxHeartbeats 2000000 in
theorem within_true (p l u : V3) (h : l.x ≤ p.x ∧ p.x ≤ u.x ∧ l.y ≤ p.y ∧ p.y ≤ u.y ∧ l.z ≤ p.z ∧ p.z ≤ u.z) (w : World) : Calls Try.prog 23 #[vecV p, boxV ⟨l, u⟩] w (VTo (.bool true) w) := by
  obtain ⟨px, py, pz⟩ := p
  obtain ⟨lx, ly, lz⟩ := l
  obtain ⟨ux, uy, uz⟩ := u
  obtain ⟨h1, h2, h3, h4, h5, h6⟩ := h
  dsimp only at h1 h2 h3 h4 h5 h6
  have d1 : decide (lx ≤ px) = true := decide_eq_true h1
  have d2 : decide (px ≤ ux) = true := decide_eq_true h2
  have d3 : decide (ly ≤ py) = true := decide_eq_true h3
  have d4 : decide (py ≤ uy) = true := decide_eq_true h4
  have d5 : decide (lz ≤ pz) = true := decide_eq_true h5
  have d6 : decide (pz ≤ uz) = true := decide_eq_true h6
  clear h1 h2 h3 h4 h5 h6
  unfold boxV
  dsimp only
  have HB := Lib.hid (alloc2_below w (box3 ⟨px, py, pz⟩) (.cells #[.int .i64 lx, .int .i64 ly, .int .i64 lz, .int .i64 ux, .int .i64 uy, .int .i64 uz] 39))
  go_enter Try.func23, Try.ntmps23
  go_wp2_with fail
  go_ret
  exact ⟨rfl, HB.out⟩

set_option maxRecDepth 100000 in
set_option maxHeartbeats 2000000 in
theorem smallMesh_any (v : Value) (m : Msh) (w : World) (hm : IsMesh w v m) (N : Int) : Calls Try.prog 13 #[v, .int .i64 N] w (VTo (.bool (decide ((m.ps.length : Int) ≤ N) && decide ((m.ts.length : Int) ≤ N) && decide ((m.bs.length : Int) ≤ N))) w) := by
  obtain ⟨a0, c0, a1, c1, a2, c2, rfl, h0, h1, h2, l0, l1, l2⟩ := hm.open_
  have HB := Lib.hid (ext_alloc w (.cells #[.slice a0 m.ps.length c0, .slice a1 m.ts.length c1, .slice a2 m.bs.length c2] 30))
  have hR := heap_alloc_new w (.cells #[.slice a0 m.ps.length c0, .slice a1 m.ts.length c1, .slice a2 m.bs.length c2] 30)
  clear hm h0 h1 h2
  generalize m.ps.length = n0 at *
  generalize m.ts.length = n1 at *
  generalize m.bs.length = n2 at *
  have k0 := cell_row hR 0 (.slice a0 n0 c0) rfl
  have k1 := cell_row hR 1 (.slice a1 n1 c1) rfl
  have k2 := cell_row hR 2 (.slice a2 n2 c2) rfl
  clear hR l0 l1 l2
  cases d0 : decide ((n0 : Int) ≤ N)
  · try simp only [Bool.false_and, Bool.and_false]
    go_enter Try.func13, Try.ntmps13
    go_wp2_with fail
    go_ret
    exact ⟨rfl, HB.out⟩
  · try simp only [Bool.true_and]
    cases d1 : decide ((n1 : Int) ≤ N)
    · try simp only [Bool.false_and, Bool.and_false]
      go_enter Try.func13, Try.ntmps13
      go_wp2_with fail
      go_ret
      exact ⟨rfl, HB.out⟩
    · try simp only [Bool.true_and]
      cases d2 : decide ((n2 : Int) ≤ N)
      · try simp only [Bool.false_and, Bool.and_false]
        go_enter Try.func13, Try.ntmps13
        go_wp2_with fail
        go_ret
        exact ⟨rfl, HB.out⟩
      · try simp only [Bool.true_and]
        go_enter Try.func13, Try.ntmps13
        go_wp2_with fail
        go_ret
        exact ⟨rfl, HB.out⟩

theorem grown_none {w w' : World} (h : w.grownBy w' none) : Below w.heap.size w w' := ⟨h.os, h.tape, h.output, h.size, fun k hk => h.block k hk (by simp)⟩
abbrev nil : Value := .slice none 0 0
structure Cp (w W : World) (row : Array Value) (s0 s1 s2 : Value) : Prop where
  h1 : W.heap[w.heap.size]? = some (.cells row 30)
  h2 : W.heap[w.heap.size + 1]? = some (.cells #[nil, nil, nil] 30)
  h3 : W.heap[w.heap.size + 1 + 1]? = some (.cells #[s0, s1, s2] 30)
  hb : Below w.heap.size w W
  sz : w.heap.size + 3 ≤ W.heap.size
theorem Cp.step {w W W' : World} {row : Array Value} {s0 s1 s2 : Value} (h : Cp w W row s0 s1 s2) (hg : W.grownBy W' none) : Cp w W' row s0 s1 s2 :=
  ⟨vec_step h.h1 (grown_none hg), vec_step h.h2 (grown_none hg), vec_step h.h3 (grown_none hg), h.hb.trans ((grown_none hg).mono h.hb.size), Nat.le_trans h.sz hg.size⟩
theorem Cp.set {w W : World} {row : Array Value} {s0 s1 s2 : Value} (h : Cp w W row s0 s1 s2) (k : Nat) (v t0 t1 t2 : Value) (he : (#[s0, s1, s2] : Array Value).setIfInBounds k v = #[t0, t1, t2]) : Cp w (W.setCell ⟨w.heap.size + 1 + 1, k, none⟩ v) row t0 t1 t2 :=
  ⟨by rw [heap_setCell_other _ _ _ _ (by show w.heap.size ≠ w.heap.size + 1 + 1; omega)]; exact h.h1, by rw [heap_setCell_other _ _ _ _ (by show w.heap.size + 1 ≠ w.heap.size + 1 + 1; omega)]; exact h.h2, by rw [heap_setCell_same _ _ _ _ _ _ h.h3, he], setCell_below h.hb (by omega) _, by rw [show (W.setCell ⟨w.heap.size + 1 + 1, k, none⟩ v).heap.size = W.heap.size from by simp [World.setCell]]; exact h.sz⟩
theorem own_set {α : Type} {c : Nat} {enc : α → List Value} {E : Nat} {w W : World} {s : Value} {l : List α} (h : RecsOwn c enc E (w.heap.size + 3) W s l) (k : Nat) (v : Value) : RecsOwn c enc E (w.heap.size + 3) (W.setCell ⟨w.heap.size + 1 + 1, k, none⟩ v) s l :=
  h.frame ((Keeps.refl (fun j => j = w.heap.size + 1 + 1) W).setCell (w.heap.size + 1 + 1) k v (.inl rfl)) (fun b hb e => by have := (h.lt b hb).1; omega)
theorem own_step {α : Type} {c : Nat} {enc : α → List Value} {E NB : Nat} {W W' : World} {s : Value} {l : List α} (h : RecsOwn c enc E NB W s l) (hg : W.grownBy W' none) : RecsOwn c enc E NB W' s l := h.below (grown_none hg) (Nat.le_refl _)
theorem cp_0 (w : World) (row : Array Value) : Cp w (((w.alloc (.cells row 30)).alloc (.cells #[nil, nil, nil] 30)).alloc (.cells #[nil, nil, nil] 30)) row nil nil nil :=
  ⟨(heap_alloc_old _ _ (lt_of_heap (alloc2_0 w _ _))).trans (alloc2_0 _ _ _), (heap_alloc_old _ _ (lt_of_heap (alloc2_1 w _ _))).trans (alloc2_1 _ _ _), MeshQ.al3 _ _ _ _, MeshQ.al3_b _ _ _ _, by rw [MeshQ.al_size, MeshQ.al_size, MeshQ.al_size]; exact Nat.le_refl _⟩
/-- what CopyMesh answers: the mesh in memory of its own -/
def MTo (m : Msh) (w : World) (e : Ending) (w' : World) : Prop := ∃ v', e = .returned v' ∧ IsMesh w' v' m ∧ Below w.heap.size w w'

set_option maxRecDepth 100000 in
set_option maxHeartbeats 4000000 in
theorem copyMesh_any (v : Value) (m : Msh) (w : World) (hm : IsMesh w v m) (b0 : m.ps.length ≤ 1000) (b1 : m.ts.length ≤ 1000) (b2 : m.bs.length ≤ 1000) : Calls Try.prog 14 #[v] w (MTo m w) := by
  obtain ⟨a0, c0, a1, c1, a2, c2, rfl, h0, h1, h2, _, _, _⟩ := hm.open_
  have C0 := Lib.hid (cp_0 w #[.slice a0 m.ps.length c0, .slice a1 m.ts.length c1, .slice a2 m.bs.length c2])
  obtain ⟨W, hW⟩ : ∃ W, W = ((w.alloc (.cells #[.slice a0 m.ps.length c0, .slice a1 m.ts.length c1, .slice a2 m.bs.length c2] 30)).alloc (.cells #[nil, nil, nil] 30)).alloc (.cells #[nil, nil, nil] 30) := ⟨_, rfl⟩
  rw [← hW] at C0
  have HWW := Lib.hid hW
  have R0 := Lib.hid (h0.below C0.out.hb (Nat.le_refl _))
  have S1 := Lib.hid h1
  have S2 := Lib.hid h2
  have L0 := Lib.hid (show (([] : List V3).length + m.ps.length) * 24 ≤ 140737488355328 by rw [List.length_nil]; omega)
  have L1 := Lib.hid (show (([] : List V3).length + m.ts.length) * 24 ≤ 140737488355328 by rw [List.length_nil]; omega)
  have L2 := Lib.hid (show (([] : List B4).length + m.bs.length) * 32 ≤ 140737488355328 by rw [List.length_nil]; omega)
  have M0 := Lib.hid (show ([] : List V3).length + m.ps.length ≤ 140737488355328 by rw [List.length_nil]; omega)
  have M1 := Lib.hid (show ([] : List V3).length + m.ts.length ≤ 140737488355328 by rw [List.length_nil]; omega)
  have M2 := Lib.hid (show ([] : List B4).length + m.bs.length ≤ 140737488355328 by rw [List.length_nil]; omega)
  clear hm h0 h1 h2 b0 b1 b2 hW
  obtain ⟨n0, hn0⟩ : ∃ n, n = m.ps.length := ⟨_, rfl⟩
  obtain ⟨n1, hn1⟩ : ∃ n, n = m.ts.length := ⟨_, rfl⟩
  obtain ⟨n2, hn2⟩ : ∃ n, n = m.bs.length := ⟨_, rfl⟩
  rw [← hn0, ← hn1, ← hn2] at C0 HWW
  rw [← hn0] at R0
  rw [← hn1] at S1
  rw [← hn2] at S2
  rw [← hn0, ← hn1, ← hn2]
  clear hn0 hn1 hn2
  go_enter Try.func14, Try.ntmps14
  go_upto_region 2 with (fail)
  rw [← HWW.out]
  clear HWW
  have x0 := cell_row C0.out.h3 0 nil rfl
  have y0 := cell_row C0.out.h1 0 (.slice a0 n0 c0) rfl
  go_upto_region 3 with (at_builtin; refine wpList_append_recs rfl (.tmp 5) (.tmp 7) 24 23 rfl (.agg #[.int .i64 0, .int .i64 0, .int .i64 0]) 24 (w.heap.size + 3) vecs_slice nil [] rfl (RecsOwn.nil _ _ _) _ m.ps rfl R0.out L0.out M0.out C0.out.sz ?_; intro v0 w0 hown hgr hwh; obtain ⟨p0, d0, hv9⟩ := hown.slice_; generalize (_ ++ _ : List _).length = k0 at hv9; subst hv9; have G0 := Lib.hid (And.intro hown hgr); clear hown hgr hwh; have r9 := (C0.out.step G0.out.2).h3; have q9 := cell_row r9 0 nil rfl; have t9 := frozen_of_row _ _ 0 _ _ r9; clear r9 x0 y0)
  clear q9 t9
  have C1 := Lib.hid ((C0.out.step G0.out.2).set 0 (.slice p0 k0 d0) (.slice p0 k0 d0) nil nil rfl)
  have O0 := Lib.hid (own_set G0.out.1 0 (.slice p0 k0 d0))
  obtain ⟨W1, hW0⟩ : ∃ W, W = w0.setCell ⟨w.heap.size + 1 + 1, 0, none⟩ (.slice p0 k0 d0) := ⟨_, rfl⟩
  rw [← hW0] at C1 O0 ⊢
  clear hW0 C0 G0 R0 L0 M0
  have R1 := Lib.hid (S1.out.below C1.out.hb (Nat.le_refl _))
  have x0 := cell_row C1.out.h3 1 nil rfl
  have y0 := cell_row C1.out.h1 1 (.slice a1 n1 c1) rfl
  go_upto_region 4 with (at_builtin; refine wpList_append_recs rfl (.tmp 11) (.tmp 13) 28 31 rfl (.agg #[.int .i64 0, .int .i64 0, .int .i64 0]) 24 (w.heap.size + 3) tris_slice nil [] rfl (RecsOwn.nil _ _ _) _ m.ts rfl R1.out L1.out M1.out C1.out.sz ?_; intro v1 w1 hown hgr hwh; obtain ⟨p1, d1, hv9⟩ := hown.slice_; generalize (_ ++ _ : List _).length = k1 at hv9; subst hv9; have G1 := Lib.hid (And.intro hown hgr); clear hown hgr hwh; have r9 := (C1.out.step G1.out.2).h3; have q9 := cell_row r9 1 nil rfl; have t9 := frozen_of_row _ _ 1 _ _ r9; clear r9 x0 y0)
  clear q9 t9
  have C2 := Lib.hid ((C1.out.step G1.out.2).set 1 (.slice p1 k1 d1) (.slice p0 k0 d0) (.slice p1 k1 d1) nil rfl)
  have O0 := Lib.hid (own_set (own_step O0.out G1.out.2) 1 (.slice p1 k1 d1))
  have O1 := Lib.hid (own_set G1.out.1 1 (.slice p1 k1 d1))
  obtain ⟨W2, hW1⟩ : ∃ W, W = w1.setCell ⟨w.heap.size + 1 + 1, 1, none⟩ (.slice p1 k1 d1) := ⟨_, rfl⟩
  rw [← hW1] at C2 O0 O1 ⊢
  clear hW1 C1 G1 R1 L1 M1
  have R2 := Lib.hid (S2.out.below C2.out.hb (Nat.le_refl _))
  have x0 := cell_row C2.out.h3 2 nil rfl
  have y0 := cell_row C2.out.h1 2 (.slice a2 n2 c2) rfl
  go_upto_region 5 with (at_builtin; refine wpList_append_recs rfl (.tmp 17) (.tmp 19) 27 26 rfl (.agg #[.int .i64 0, .int .i64 0, .int .i64 0, .int .i64 0]) 32 (w.heap.size + 3) balls_slice nil [] rfl (RecsOwn.nil _ _ _) _ m.bs rfl R2.out L2.out M2.out C2.out.sz ?_; intro v2 w2 hown hgr hwh; obtain ⟨p2, d2, hv9⟩ := hown.slice_; generalize (_ ++ _ : List _).length = k2 at hv9; subst hv9; have G2 := Lib.hid (And.intro hown hgr); clear hown hgr hwh; have r9 := (C2.out.step G2.out.2).h3; have q9 := cell_row r9 2 nil rfl; have t9 := frozen_of_row _ _ 2 _ _ r9; clear r9 x0 y0)
  clear q9 t9
  have C3 := Lib.hid ((C2.out.step G2.out.2).set 2 (.slice p2 k2 d2) (.slice p0 k0 d0) (.slice p1 k1 d1) (.slice p2 k2 d2) rfl)
  have O0 := Lib.hid (own_set (own_step O0.out G2.out.2) 2 (.slice p2 k2 d2))
  have O1 := Lib.hid (own_set (own_step O1.out G2.out.2) 2 (.slice p2 k2 d2))
  have O2 := Lib.hid (own_set G2.out.1 2 (.slice p2 k2 d2))
  obtain ⟨W3, hW2⟩ : ∃ W, W = w2.setCell ⟨w.heap.size + 1 + 1, 2, none⟩ (.slice p2 k2 d2) := ⟨_, rfl⟩
  rw [← hW2] at C3 O0 O1 O2 ⊢
  clear hW2 C2 G2 R2 L2 M2
  obtain ⟨j0, j1, j2⟩ := cells_now C3.out.h3
  go_wp2_with (with_reducible refine store_mesh rfl (.tmp 2) (.tmp 22) rfl rfl (w.heap.size + 1) (.slice p0 k0 d0) (.slice p1 k1 d1) (.slice p2 k2 d2) rfl rfl _ C3.out.h2 rfl ⟨rfl, rfl, rfl⟩ ?_)
  refine bodyPost_ret (results_cell_row rfl _ _ (w.heap.size + 1) 30 _ _ _ rfl (setRow_heap _ _ _ _ _ _ C3.out.h2) Try.underlying30 rfl mesh_size) rfl ?_
  have hk : Keeps (fun j => j = w.heap.size + 1) W3 (W3.setRow (w.heap.size + 1) #[.slice p0 k0 d0, .slice p1 k1 d1, .slice p2 k2 d2]) := (Keeps.refl (fun j => j = w.heap.size + 1) W3).setRow (w.heap.size + 1) _ (.inl rfl)
  exact ⟨_, rfl, ⟨⟨_, _, _, rfl, ((O0.out.frame hk (fun b hb e => by have := (O0.out.lt b hb).1; omega)).recs len3), ((O1.out.frame hk (fun b hb e => by have := (O1.out.lt b hb).1; omega)).recs len3), ((O2.out.frame hk (fun b hb e => by have := (O2.out.lt b hb).1; omega)).recs len4)⟩⟩, below_setRow C3.out.hb (by omega) _⟩
end Go.Proofs.Ytdmmjmdnljhooaa.MeshS
