/- The walks of SmallMesh, row, down and awake. -/
import Derived.Test.YtdaokkgenfpmhaaBvhH
import Derived.Test.YtdaokkgenfpmhaaBvhJ
import Derived.Test.YtdaokkgenfpmhaaHitEq
set_option linter.unusedVariables false
set_option linter.unusedSimpArgs false
namespace Go.Proofs.Ytdaokkgenfpmhaa.BvhI
open Go Go.RowKit Go.Sort Go.Lib FixM Base Num FixW Qb Qt Qa Qf Qg VecW VecV VecU LightQ LightC MeshM Rec MeshA MeshC MeshD MeshP HitM HitT HitX HitN HitS HitV BvhM BvhA BvhB BvhS BvhC BvhD BvhU BvhW BvhX BvhE BvhF BvhG BvhH BvhJ
set_option maxRecDepth 100000 in
theorem smallMesh_any (v : Value) (m : Msh) (w : World) (hm : IsMesh w v m) (N : Int) : Calls Try.prog 9 #[v, .int .i64 N] w (VTo (.bool (decide ((m.ps.length : Int) ≤ N) && decide ((m.ts.length : Int) ≤ N) && decide ((m.bs.length : Int) ≤ N))) w) := by
  obtain ⟨a0, c0, a1, c1, a2, c2, rfl, h0, h1, h2, l0, l1, l2⟩ := hm.open_
  have HB := Lib.hid (ext_alloc w (.cells #[.slice a0 m.ps.length c0, .slice a1 m.ts.length c1, .slice a2 m.bs.length c2] 31))
  have hR := heap_alloc_new w (.cells #[.slice a0 m.ps.length c0, .slice a1 m.ts.length c1, .slice a2 m.bs.length c2] 31)
  clear hm h0 h1 h2
  generalize m.ps.length = n0 at *
  generalize m.ts.length = n1 at *
  generalize m.bs.length = n2 at *
  have k0 := cell_row hR 0 (.slice a0 n0 c0) rfl
  have k1 := cell_row hR 1 (.slice a1 n1 c1) rfl
  have k2 := cell_row hR 2 (.slice a2 n2 c2) rfl
  clear hR l0 l1 l2
  cases d0 : decide ((n0 : Int) ≤ N)
  · try simp only [Bool.false_and, Bool.and_false]
    go_enter Try.func9, Try.ntmps9
    go_wp2_with fail
    go_ret
    exact ⟨rfl, HB.out⟩
  · try simp only [Bool.true_and]
    cases d1 : decide ((n1 : Int) ≤ N)
    · try simp only [Bool.false_and, Bool.and_false]
      go_enter Try.func9, Try.ntmps9
      go_wp2_with fail
      go_ret
      exact ⟨rfl, HB.out⟩
    · try simp only [Bool.true_and]
      cases d2 : decide ((n2 : Int) ≤ N)
      · try simp only [Bool.false_and, Bool.and_false]
        go_enter Try.func9, Try.ntmps9
        go_wp2_with fail
        go_ret
        exact ⟨rfl, HB.out⟩
      · try simp only [Bool.true_and]
        go_enter Try.func9, Try.ntmps9
        go_wp2_with fail
        go_ret
        exact ⟨rfl, HB.out⟩

/-- the row under way -/
structure Rw (w wr : World) (g2 g3 NB : Nat) (vb : Value) (l : List B4) : Prop where
  r2 : wr.heap[g2]? = some (.cells #[.slice none 0 0, .slice none 0 0, .slice none 0 0] 31)
  r3 : wr.heap[g3]? = some (.cells #[.slice none 0 0, .slice none 0 0, vb] 31)
  ob : RecsOwn 4 enc4 71 NB wr vb l
  hb : Below w.heap.size w wr
  low : w.heap.size ≤ g2 ∧ w.heap.size ≤ g3 ∧ g2 < NB ∧ g3 < NB ∧ g2 ≠ g3 ∧ NB ≤ wr.heap.size
theorem Rw.below {w wr w' : World} {g2 g3 NB : Nat} {vb : Value} {l : List B4} (h : Rw w wr g2 g3 NB vb l) (hb : Below wr.heap.size wr w') : Rw w w' g2 g3 NB vb l :=
  ⟨vec_step h.r2 hb, vec_step h.r3 hb, h.ob.below hb (Nat.le_refl _), h.hb.trans (hb.mono h.hb.size), ⟨h.low.1, h.low.2.1, h.low.2.2.1, h.low.2.2.2.1, h.low.2.2.2.2.1, Nat.le_trans h.low.2.2.2.2.2 hb.size⟩⟩
theorem Rw.app {w wr w1 : World} {g2 g3 NB : Nat} {vb v' : Value} {l l' : List B4} (h : Rw w wr g2 g3 NB vb l) (hg : wr.grownBy w1 vb.ownBlock) (ho : RecsOwn 4 enc4 71 NB w1 v' l') : Rw w (w1.setCell ⟨g3, 2, none⟩ v') g2 g3 NB v' l' := by
  have hk : Keeps (fun k => vb.ownBlock = some k) wr w1 := (Keeps.refl _ wr).grown hg (fun k e => .inl e)
  have hk2 := (Keeps.refl (fun k => k = g3) w1).setCell g3 2 v' (.inl rfl)
  obtain ⟨l1, l2, l3, l4, l5, l6⟩ := h.low
  refine ⟨keep_cell hk2 (keep_cell hk h.r2 (fun e => by have := (h.ob.lt _ e).1; omega)) l5, ?_, ho.frame hk2 (fun b e1 e2 => by have := (ho.lt b e1).1; omega), (h.hb.trans (hk.below w.heap.size h.hb.size (fun k e => by have := (h.ob.lt k e).1; omega))).trans (hk2.below w.heap.size (Nat.le_trans h.hb.size hk.size) (fun k e => by omega)), ⟨l1, l2, l3, l4, l5, Nat.le_trans l6 (Nat.le_trans hk.size hk2.size)⟩⟩
  rw [heap_setCell_same _ _ _ _ _ _ (keep_cell hk h.r3 (fun e => by have := (h.ob.lt _ e).1; omega))]; rfl
def RowTo (w : World) (n : Nat) (e : Ending) (w' : World) : Prop := ∃ a c, e = .returned (.agg #[.slice none 0 0, .slice none 0 0, .slice a n c]) ∧ IsMesh w' (.agg #[.slice none 0 0, .slice none 0 0, .slice a n c]) (rowM n) ∧ Below w.heap.size w w'
theorem mesh_size : (Try.prog.info? 31).map (·.size) = some 3 := by kernel_rfl
theorem store_mesh {ops : Array Oper} {rest : List Oper} {o : Oper} {a : Act} {w : World} {Q : Exit → Act → World → Prop} (hgd : o.guard = none) (x y : Operand) (ho : o.op = .store 31 x y) (hd : o.dst = none)
    (g : Nat) (v0 v1 v2 : Value) (hx : a.eval x = .pointer (some ⟨g, 0, none⟩)) (hy : a.eval y = .agg #[v0, v1, v2]) (cur : Array Value) (hg : w.heap[g]? = some (.cells cur 31)) (hc : cur.size = 3)
    (h1 : v0.oneCell' = true ∧ v1.oneCell' = true ∧ v2.oneCell' = true)
    (h : wpList Try.prog ops Q rest a (w.setRow g #[v0, v1, v2])) : wpList Try.prog ops Q (o :: rest) a w :=
  wpList_store_arr hgd 31 x y ho g _ hx hy 31 cur hg mesh_size (by rw [hc]; rfl) (by intro v hv; simp at hv; rcases hv with rfl | rfl | rfl; exact h1.1; exact h1.2.1; exact h1.2.2) hd h
set_option maxRecDepth 100000 in
set_option maxHeartbeats 16000000 in
theorem row_any (w : World) (n : Nat) (hn : n ≤ 4096) : Calls Try.prog 17 #[.int .i64 (n : Int)] w (RowTo w n) := by
  have hA := alloc2_0 w (.cells #[.slice none 0 0, .slice none 0 0, .slice none 0 0] 31) (.cells #[.slice none 0 0, .slice none 0 0, .slice none 0 0] 31)
  have hB := alloc2_1 w (.cells #[.slice none 0 0, .slice none 0 0, .slice none 0 0] 31) (.cells #[.slice none 0 0, .slice none 0 0, .slice none 0 0] 31)
  have hB0 := alloc2_below w (.cells #[.slice none 0 0, .slice none 0 0, .slice none 0 0] 31) (.cells #[.slice none 0 0, .slice none 0 0, .slice none 0 0] 31)
  have HR0 := Lib.hid (show Rw w ((w.alloc (.cells #[.slice none 0 0, .slice none 0 0, .slice none 0 0] 31)).alloc (.cells #[.slice none 0 0, .slice none 0 0, .slice none 0 0] 31)) w.heap.size (w.heap.size + 1) (w.heap.size + 2) (.slice none 0 0) ((List.range 0).map rowB) from ⟨hA, hB, RecsOwn.nil _ _ _, hB0, ⟨Nat.le_refl _, Nat.le_succ _, by omega, by omega, by omega, by simp⟩⟩)
  clear hA hB hB0
  have HN := Lib.hid hn
  clear hn
  go_enter Try.func17, Try.ntmps17
  go_upto_region 2 with (fail)
  obtain ⟨W, hW⟩ : ∃ ww, ww = (w.alloc (.cells #[.slice none 0 0, .slice none 0 0, .slice none 0 0] 31)).alloc (.cells #[.slice none 0 0, .slice none 0 0, .slice none 0 0] 31) := ⟨_, rfl⟩
  rw [← hW] at HR0 ⊢
  clear hW
  go_wp2_with fail
  go_loopg [4] n (fun r n4 wr => ∃ (k : Nat) (vb : Value), k + r = n ∧ n4 = .int .i64 (k : Int) ∧ Hid (Rw w wr w.heap.size (w.heap.size + 1) (w.heap.size + 2) vb ((List.range k).map rowB)))
  case atStart => exact ⟨0, _, by omega, rfl, HR0⟩
  case round =>
    obtain ⟨k, vb, hkr, rfl, hin⟩ := hrel
    obtain ⟨a1, c1, hv⟩ := hin.out.ob.slice_
    have hlen : ((List.range k).map rowB).length = k := by simp
    rw [hlen] at hv
    subst hv
    clear hlen
    by_cases hk : k < n
    · have d1 : decide ((k : Int) < (n : Int)) = true := decide_eq_true (by omega)
      have d2 : decide (k < n) = true := decide_eq_true hk
      have HKN := Lib.hid (show k < 4096 by have := HN.out; omega)
      have HMS := Lib.hid (show n - (k + 1) < gk by omega)
      have HKR := Lib.hid (show k + 1 + (n - (k + 1)) = n by omega)
      have HIN := hin
      clear hin hk hkr
      obtain ⟨K, hK⟩ : ∃ x, x = k * 10 := ⟨_, rfl⟩
      have i1 : IntKind.i64.wrap ((k : Int) * 10) = (K : Int) := by have := HKN.out; rw [wrap_in (by omega) (by omega)]; omega
      obtain ⟨X, hX⟩ : ∃ x : Int, x = (k : Int) * 42949672960 := ⟨_, rfl⟩
      have i2 : IntKind.i64.wrap ((K : Int) * 4294967296) = X := by have := HKN.out; rw [wrap_in (by omega) (by omega)]; omega
      have HRB := Lib.hid (show rowB k = ⟨⟨X, 0, 0⟩, 4294967296⟩ by rw [hX]; rfl)
      have i9 : IntKind.i64.wrap ((k : Int) + 1) = ((k + 1 : Nat) : Int) := by have := HKN.out; rw [wrap_in (by omega) (by omega)]; omega
      have HKX := Lib.hid (And.intro hK hX)
      clear hK hX
      have z0 := cell_row HIN.out.r3 2 _ rfl
      have R1 := Lib.hid (recs_one (enc := enc4) len4 71 wr (⟨⟨X, 0, 0⟩, 4294967296⟩ : B4) #[.int .i64 X, .int .i64 0, .int .i64 0, .int .i64 4294967296] rfl)
      have HX1 := Lib.hid (HIN.out.below (ext_alloc wr (.cells #[.int .i64 X, .int .i64 0, .int .i64 0, .int .i64 4294967296] 71)))
      have LE1 := Lib.hid (show (((List.range k).map rowB).length + [(⟨⟨X, 0, 0⟩, 4294967296⟩ : B4)].length) * 32 ≤ 140737488355328 by have := HKN.out; simp; omega)
      have LE2 := Lib.hid (show ((List.range k).map rowB).length + [(⟨⟨X, 0, 0⟩, 4294967296⟩ : B4)].length ≤ 140737488355328 by have := HKN.out; simp; omega)
      go_upto_region 4 with (at_builtin; refine wpList_append_recs rfl (.tmp 11) (.tmp 17) 29 71 rfl (.agg #[.int .i64 0, .int .i64 0, .int .i64 0, .int .i64 0]) 32 (w.heap.size + 2) balls_slice (.slice a1 k c1) ((List.range k).map rowB) rfl HX1.out.ob _ [(⟨⟨X, 0, 0⟩, 4294967296⟩ : B4)] rfl R1.out LE1.out LE2.out HX1.out.low.2.2.2.2.2 ?_; intro v7 w7 hown7 hgr7 _; have HX7 := Lib.hid (HX1.out.app hgr7 hown7); have hr7 := (Keeps.refl (fun k9 => (Value.slice a1 k c1).ownBlock = some k9) _).grown hgr7 (fun k9 e => .inl e); have HT7 := Lib.hid (keep_cell hr7 HX1.out.r3 (fun e => by have := (HX1.out.ob.lt _ e).1; have := HX1.out.low; omega)); obtain ⟨a7, c7, hv7⟩ := hown7.slice_; generalize (_ ++ _ : List _).length = n7 at hv7; subst hv7; have r9 := cell_row HT7.out 2 _ rfl; have t9 := frozen_of_row _ _ 2 _ _ HT7.out; clear hown7 hgr7 hr7)
      obtain ⟨W7, hW⟩ : ∃ ww, ww = w7.setCell ⟨w.heap.size + 1, 2, none⟩ (.slice a7 n7 c7) := ⟨_, rfl⟩
      rw [← hW] at HX7 ⊢
      clear hW r9 t9 HT7 R1 HX1 z0
      go_wp2_with fail
      go_roundg (n - (k + 1))
      case measure => exact HMS.out
      case rel => exact ⟨k + 1, _, HKR.out, by first | rfl | go_num, Lib.hid (by rw [row_next, HRB.out]; exact HX7.out)⟩
    · have hkn : k = n := by omega
      subst hkn
      have d1 : decide ((k : Int) < (k : Int)) = false := decide_eq_false (by omega)
      have d2 : decide (k < k) = false := decide_eq_false (by omega)
      have HIN := hin
      have z0 := cell_row HIN.out.r3 0 _ rfl
      have z1 := cell_row HIN.out.r3 1 _ rfl
      have z2 := cell_row HIN.out.r3 2 _ rfl
      go_wp2_with (with_reducible refine store_mesh rfl (.tmp 2) (.tmp 20) rfl rfl w.heap.size (.slice none 0 0) (.slice none 0 0) (.slice a1 k c1) rfl rfl _ HIN.out.r2 rfl ⟨rfl, rfl, rfl⟩ ?_)
      refine bodyPost_ret (results_cell_row rfl _ _ w.heap.size 31 _ _ _ rfl (setRow_heap _ _ _ _ _ _ HIN.out.r2) Try.underlying31 rfl mesh_size) rfl ?_
      have hk2 := (Keeps.refl (fun k9 => k9 = w.heap.size) wr).setRow w.heap.size #[.slice none 0 0, .slice none 0 0, .slice a1 k c1] (.inl rfl)
      refine ⟨a1, c1, rfl, ⟨⟨_, _, _, rfl, Recs.nil _, Recs.nil _, ?_⟩⟩, below_setRow HIN.out.hb (Nat.le_refl _) _⟩
      exact (HIN.out.ob.recs len4).frame hk2 (fun b e1 e2 => by have := (HIN.out.ob.lt b e1).1; omega)
theorem ray_size : (Try.prog.info? 25).map (·.size) = some 6 := by kernel_rfl
theorem store_ray {ops : Array Oper} {rest : List Oper} {o : Oper} {a : Act} {w : World} {Q : Exit → Act → World → Prop} (hgd : o.guard = none) (x y : Operand) (ho : o.op = .store 25 x y) (hd : o.dst = none)
    (g : Nat) (A B C D E F : Int) (hx : a.eval x = .pointer (some ⟨g, 0, none⟩)) (hy : a.eval y = .agg #[.int .i64 A, .int .i64 B, .int .i64 C, .int .i64 D, .int .i64 E, .int .i64 F]) (cur : Array Value) (hg : w.heap[g]? = some (.cells cur 25)) (hc2 : cur.size = 6)
    (h : wpList Try.prog ops Q rest a (w.setRow g #[.int .i64 A, .int .i64 B, .int .i64 C, .int .i64 D, .int .i64 E, .int .i64 F])) : wpList Try.prog ops Q (o :: rest) a w :=
  wpList_store_arr hgd 25 x y ho g _ hx hy 25 cur hg ray_size (by rw [hc2]; rfl) (ones6 _ _ _ _ _ _) hd h
set_option maxRecDepth 100000 in
set_option maxHeartbeats 16000000 in
theorem down_any (w : World) (x : Int) (hx : -1000000 ≤ x ∧ x ≤ 1000000) : Calls Try.prog 18 #[.int .i64 x] w (VTo (rayV (downR x)) w) := by
  have HN := heap_alloc_new w (.cells #[.int .i64 0, .int .i64 0, .int .i64 0, .int .i64 0, .int .i64 0, .int .i64 0] 25)
  have HB := Lib.hid (ext_alloc w (.cells #[.int .i64 0, .int .i64 0, .int .i64 0, .int .i64 0, .int .i64 0, .int .i64 0] 25))
  obtain ⟨X, hX⟩ : ∃ z : Int, z = x * 4294967296 := ⟨_, rfl⟩
  have i1 : IntKind.i64.wrap (x * 4294967296) = X := by rw [wrap_in (by omega) (by omega)]; omega
  have HR := Lib.hid (show rayV (downR x) = .agg #[.int .i64 X, .int .i64 0, .int .i64 (-21474836480), .int .i64 0, .int .i64 0, .int .i64 4294967296] by rw [hX]; rfl)
  clear hX hx
  go_enter Try.func18, Try.ntmps18
  go_wp2_with (with_reducible refine store_ray rfl (.tmp 2) (.tmp 7) rfl rfl w.heap.size X 0 (-21474836480) 0 0 4294967296 rfl rfl _ HN rfl ?_)
  refine bodyPost_ret (results_cell_row rfl _ _ w.heap.size 25 _ _ _ rfl (setRow_heap _ _ _ _ _ _ HN) Try.underlying25 rfl ray_size) rfl ?_
  exact ⟨by rw [HR.out], below_setRow HB.out (Nat.le_refl _) _⟩
def AwTo (w : World) : Ending → World → Prop := fun e w' => e = .returned (.bool true) ∧ Below w.heap.size w w'
theorem _root_.Go.Proofs.Ytdaokkgenfpmhaa.BvhE.TreeAt.below {w w' : World} {g : Nat} {m : Msh} (h : TreeAt w g m) (hb : Below w.heap.size w w') : TreeAt w' g m := by
  obtain ⟨v0, v1, v2, vn, vo, h1, h2, h3, h4⟩ := h.is_
  exact ⟨v0, v1, v2, vn, vo, vec_step h1 hb, h2.below hb, h3.below hb (Nat.le_refl _), h4.below hb (Nat.le_refl _)⟩
theorem tree_nodes {w : World} {g : Nat} {m : Msh} (h : TreeAt w g m) : Calls Try.prog 6 #[.pointer (some ⟨g, 0, none⟩)] w (fun e w' => e = .returned (.int .i64 ((flatM m).length : Int)) ∧ w = w') := by
  obtain ⟨v0, v1, v2, vn, vo, h1, h2, h3, h4⟩ := h.is_
  obtain ⟨a, cp, rfl, -⟩ := h3.open_
  exact nodes_tree g w a _ cp (cell_row h1 0 _ rfl) (cell_row h1 4 _ rfl)
theorem tree_deep {w : World} {g : Nat} {m : Msh} (h : TreeAt w g m) : Calls Try.prog 7 #[.pointer (some ⟨g, 0, none⟩)] w (fun e w' => e = .returned (.int .i64 (deepM m : Int)) ∧ w = w') := by
  obtain ⟨v0, v1, v2, vn, vo, h1, h2, h3, h4⟩ := h.is_
  exact deep_tree g w _ (cell_row h1 0 _ rfl) (cell_row h1 6 _ rfl)
theorem build_made {v : Value} {m : Msh} {w : World} (hm : IsMesh w v m) (ok : m.ok) (hc : checkF m = 0) (steps : Int) (hs : ¬ steps < (stepsM m : Int)) : Calls Try.prog 10 #[v, .int .i64 steps] w (fun e w' => ∃ g, e = .returned (.tuple #[.pointer (some ⟨g, 0, none⟩), .int .i64 (stepsM m : Int), .int .i64 0]) ∧ TreeAt w' g m ∧ Below w.heap.size w w') := by
  refine (build_any v m w hm ok steps).mono ?_
  rintro e w' ⟨hb, h⟩
  rw [if_neg (fun h => h hc), if_neg hs] at h
  obtain ⟨g, h1, h2, -⟩ := h
  exact ⟨g, h1, h2, hb⟩
theorem build_short {v : Value} {m : Msh} {w : World} (hm : IsMesh w v m) (ok : m.ok) (hc : checkF m = 0) (steps : Int) (hs : steps < (stepsM m : Int)) : Calls Try.prog 10 #[v, .int .i64 steps] w (VTo (.tuple #[.pointer none, .int .i64 0, .int .i64 15]) w) := by
  refine (build_any v m w hm ok steps).mono ?_
  rintro e w' ⟨hb, h⟩
  rw [if_neg (fun h => h hc), if_pos hs] at h
  exact ⟨h, hb⟩
theorem build_wrong {v : Value} {m : Msh} {w : World} (hm : IsMesh w v m) (ok : m.ok) (hc : checkF m ≠ 0) (steps : Int) : Calls Try.prog 10 #[v, .int .i64 steps] w (VTo (.tuple #[.pointer none, .int .i64 0, .int .i64 (checkF m)]) w) := by
  refine (build_any v m w hm ok steps).mono ?_
  rintro e w' ⟨hb, h⟩
  rw [if_pos hc] at h
  exact ⟨h, hb⟩
theorem row3 (w : World) : Calls Try.prog 17 #[.int .i64 3] w (RowTo w 3) := row_any w 3 (by decide)
theorem made3 {v : Value} {w : World} (hm : IsMesh w v (rowM 3)) : Calls Try.prog 10 #[v, .int .i64 6] w (fun e w' => ∃ g, e = .returned (.tuple #[.pointer (some ⟨g, 0, none⟩), .int .i64 6, .int .i64 0]) ∧ TreeAt w' g (rowM 3) ∧ Below w.heap.size w w') := by
  have h := build_made hm (row_ok 3 (by decide)) (row_check 3 (by decide)) 6 (by rw [awake_steps]; decide)
  rw [awake_steps] at h
  exact h
theorem short3 {v : Value} {w : World} (hm : IsMesh w v (rowM 3)) : Calls Try.prog 10 #[v, .int .i64 5] w (VTo (.tuple #[.pointer none, .int .i64 0, .int .i64 15]) w) := build_short hm (row_ok 3 (by decide)) (row_check 3 (by decide)) 5 (by rw [awake_steps]; decide)
theorem none_ok : noneM.ok := ⟨by simp [noneM], by simp [noneM], by simp [noneM]⟩
theorem none_mesh (w : World) : IsMesh w (.agg #[.slice none 0 0, .slice none 0 0, .slice none 0 0]) noneM := ⟨⟨_, _, _, rfl, Recs.nil _, Recs.nil _, Recs.nil _⟩⟩
theorem made0 (w : World) : Calls Try.prog 10 #[.agg #[.slice none 0 0, .slice none 0 0, .slice none 0 0], .int .i64 0] w (fun e w' => ∃ g, e = .returned (.tuple #[.pointer (some ⟨g, 0, none⟩), .int .i64 0, .int .i64 0]) ∧ TreeAt w' g noneM ∧ Below w.heap.size w w') := build_made (none_mesh w) none_ok none_check 0 (by rw [none_steps]; decide)
theorem down50 (w : World) : Calls Try.prog 18 #[.int .i64 (-50)] w (VTo (rayV (downR (-50))) w) := down_any w (-50) (by decide)
theorem down50_ok : (downR (-50)).ok := by unfold Ry.ok downR V3.ok In; decide
theorem near3 {w : World} {g : Nat} (h : TreeAt w g (rowM 3)) : Calls Try.prog 5 #[.pointer (some ⟨g, 0, none⟩), rayV (downR (-50)), .int .i64 0] w (VTo (.tuple #[.agg #[.int .i64 0, .int .i64 (-1), .int .i64 0, .int .i64 0], .int .i64 1]) w) := by
  have h := near_any w g (rowM 3) h (row_ok 3 (by decide)) (by rw [row_cnt]; decide) (downR (-50)) down50_ok 0
  rw [awake_near] at h
  exact h
theorem nodes3 {w : World} {g : Nat} (h : TreeAt w g (rowM 3)) : Calls Try.prog 6 #[.pointer (some ⟨g, 0, none⟩)] w (fun e w' => e = .returned (.int .i64 3) ∧ w = w') := by
  have := tree_nodes h; rw [awake_nodes] at this; exact this
theorem deep3 {w : World} {g : Nat} (h : TreeAt w g (rowM 3)) : Calls Try.prog 7 #[.pointer (some ⟨g, 0, none⟩)] w (fun e w' => e = .returned (.int .i64 2) ∧ w = w') := by
  have := tree_deep h; rw [awake_deep] at this; exact this
theorem nodes0 {w : World} {g : Nat} (h : TreeAt w g noneM) : Calls Try.prog 6 #[.pointer (some ⟨g, 0, none⟩)] w (fun e w' => e = .returned (.int .i64 0) ∧ w = w') := tree_nodes h
theorem EQN : ∀ w, (Op.equalIn 10000 38 (.agg #[.int .i64 0, .int .i64 (-1), .int .i64 0, .int .i64 0]) (.agg #[.int .i64 0, .int .i64 (-1), .int .i64 0, .int .i64 0])).run Try.prog w = .ok true w := fun w => HitEq.eq_hit _ _ _ _ _ _ _ _ w
set_option maxRecDepth 100000 in
set_option maxHeartbeats 16000000 in
theorem awake_any (w : World) : Calls Try.prog 8 #[] w (AwTo w) := by
  go_enter Try.func8, Try.ntmps8
  go_wp2_with fail
  refine (row3 _).mono ?_
  rintro e w1 ⟨a1, c1, rfl, hm, hb⟩
  have HM := Lib.hid hm
  have HB1 := Lib.hid hb
  clear hm hb
  go_wp2_with fail
  refine (made3 HM.out).mono ?_
  rintro e w2 ⟨g, rfl, ht, hb⟩
  have HT2 := Lib.hid ht
  have HB2 := Lib.hid (HB1.out.trans (hb.mono HB1.out.size))
  clear ht hb HM HB1
  go_wp2_with fail
  refine (row3 _).mono ?_
  rintro e w3 ⟨a2, c2, rfl, hm, hb⟩
  have HM := Lib.hid hm
  have HT3 := Lib.hid (HT2.out.below hb)
  have HB3 := Lib.hid (HB2.out.trans (hb.mono HB2.out.size))
  clear hm hb HT2 HB2
  go_wp2_with fail
  refine (short3 HM.out).mono ?_
  rintro e w4 ⟨rfl, hb⟩
  have HT4 := Lib.hid (HT3.out.below hb)
  have HB4 := Lib.hid (HB3.out.trans (hb.mono HB3.out.size))
  clear hb HM HT3 HB3
  go_wp2_with fail
  refine (made0 _).mono ?_
  rintro e w5 ⟨g0, rfl, ht, hb⟩
  have HN5 := Lib.hid ht
  have HT5 := Lib.hid (HT4.out.below hb)
  have HB5 := Lib.hid (HB4.out.trans (hb.mono HB4.out.size))
  clear ht hb HT4 HB4
  go_wp2_with fail
  refine (down50 _).mono ?_
  rintro e w6 ⟨rfl, hb⟩
  have HN6 := Lib.hid (HN5.out.below hb)
  have HT6 := Lib.hid (HT5.out.below hb)
  have HB6 := Lib.hid (HB5.out.trans (hb.mono HB5.out.size))
  clear hb HN5 HT5 HB5
  go_wp2_with fail
  refine (near3 HT6.out).mono ?_
  rintro e w7 ⟨rfl, hb⟩
  have HN7 := Lib.hid (HN6.out.below hb)
  have HT7 := Lib.hid (HT6.out.below hb)
  have HB7 := Lib.hid (HB6.out.trans (hb.mono HB6.out.size))
  clear hb HN6 HT6 HB6
  have hx := ext_alloc w7 (.cells #[.int .i64 0, .int .i64 (-1), .int .i64 0, .int .i64 0] 38)
  have hn := heap_alloc_new w7 (.cells #[.int .i64 0, .int .i64 (-1), .int .i64 0, .int .i64 0] 38)
  go_upto_region 5 with (fail)
  obtain ⟨w8, hW⟩ : ∃ ww, ww = w7.alloc (.cells #[.int .i64 0, .int .i64 (-1), .int .i64 0, .int .i64 0] 38) := ⟨_, rfl⟩
  rw [← hW] at hx hn ⊢
  have HN8 := Lib.hid (HN7.out.below hx)
  have HT8 := Lib.hid (HT7.out.below hx)
  have HB8 := Lib.hid (HB7.out.trans (hx.mono HB7.out.size))
  clear hW hx HN7 HT7 HB7
  have e0 := cell_row hn 0 _ rfl
  have e1 := cell_row hn 1 _ rfl
  have e2 := cell_row hn 2 _ rfl
  have e3 := cell_row hn 3 _ rfl
  clear hn
  have EQ := EQN
  go_wp2_with fail
  refine (nodes3 HT8.out).mono ?_
  rintro e _ ⟨rfl, rfl⟩
  go_wp2_with fail
  refine (deep3 HT8.out).mono ?_
  rintro e _ ⟨rfl, rfl⟩
  go_wp2_with fail
  refine (nodes0 HN8.out).mono ?_
  rintro e _ ⟨rfl, rfl⟩
  go_wp2_with fail
  go_ret
  exact ⟨rfl, HB8.out⟩
end Go.Proofs.Ytdaokkgenfpmhaa.BvhI
