/- The walks of law13's of, from, ball and awake. -/
import Derived.Test.YtdmmbhcaejojeaaHitV
import Derived.Test.YtdmmbhcaejojeaaMeshEq
import Derived.Test.YtdmmbhcaejojeaaQu
set_option linter.unusedVariables false
set_option linter.unusedSimpArgs false
namespace Go.Proofs.Ytdmmbhcaejojeaa.HitW
open Go.RowKit Go.Sort FixM Base Num FixW Qb Qt Qa Qf Qg Qr Qs VecW VecV VecU LightQ LightC MeshM Rec MeshA MeshB MeshC MeshD MeshE MeshP MeshEq HitM HitT HitB HitX HitN HitC HitS HitV
theorem recs_row {α : Type} {c : Nat} {enc : α → List Value} (hlen : ∀ x, (enc x).length = c) (E : Nat) (w : World) (l : List α) (row : Array Value) (hr : row.toList = l.flatMap enc) (hm : l.length ≤ maxLen) : Recs c enc (w.alloc (.cells row E)) (.slice (some ⟨w.heap.size, 0, none⟩) l.length l.length) l where
  shape := ⟨_, l.length, rfl, Nat.le_refl _, hm, fun e => by simp at e⟩
  cells := fun _ => ⟨w.heap.size, 0, l.length, rfl, by simp, fun i hi k y hy => by
    have hk : k < c := by
      rcases Nat.lt_or_ge k c with h | h
      · exact h
      · rw [List.getElem?_eq_none (by rw [hlen]; exact h)] at hy; simp at hy
    rw [cell_of_row _ w.heap.size _ row E (0, 0) (heap_alloc_new _ _), Nat.zero_add]
    have e : row[i * c + k]? = (l.flatMap enc)[i * c + k]? := by rw [← hr]; simp
    rw [e, flat_at hlen l i k hi hk]; exact hy⟩
theorem ray_size : (Try.prog.info? 25).map (·.size) = some 6 := by kernel_rfl
theorem store_ray {ops : Array Oper} {rest : List Oper} {o : Oper} {a : Act} {w : World} {Q : Exit → Act → World → Prop} (hgd : o.guard = none) (x y : Operand) (ho : o.op = .store 25 x y) (hd : o.dst = none)
    (g : Nat) (A B C D E F : Int) (hx : a.eval x = .pointer (some ⟨g, 0, none⟩)) (hy : a.eval y = .agg #[.int .i64 A, .int .i64 B, .int .i64 C, .int .i64 D, .int .i64 E, .int .i64 F]) (cur : Array Value) (hg : w.heap[g]? = some (.cells cur 25)) (hc2 : cur.size = 6)
    (h : wpList Try.prog ops Q rest a (w.setRow g #[.int .i64 A, .int .i64 B, .int .i64 C, .int .i64 D, .int .i64 E, .int .i64 F])) : wpList Try.prog ops Q (o :: rest) a w :=
  wpList_store_arr hgd 25 x y ho g _ hx hy 25 cur hg ray_size (by rw [hc2]; rfl) (MeshP.ones6 _ _ _ _ _ _) hd h

set_option maxRecDepth 100000 in
theorem of_0_0_n5 (w : World) : Calls Try.prog 9 #[.int .i64 0, .int .i64 0, .int .i64 (-5)] w (VTo (.agg #[.int .i64 0, .int .i64 0, .int .i64 (-21474836480)]) w) := by
  go_enter Try.func9, Try.ntmps9
  go_wp2_with (with_reducible refine store_vec rfl (.tmp 6) (.tmp 13) rfl rfl w.heap.size (0) (0) (-21474836480) rfl rfl _ _ _ (heap_alloc_new _ _) ?_)
  refine bodyPost_ret (results_cell_row rfl _ _ w.heap.size 23 _ _ _ rfl (setRow_heap _ _ _ _ _ _ (heap_alloc_new _ _)) Try.underlying23 rfl vec_size) rfl ?_
  exact ⟨rfl, put_ext _ _ _⟩

set_option maxRecDepth 100000 in
theorem of_5_0_n5 (w : World) : Calls Try.prog 9 #[.int .i64 5, .int .i64 0, .int .i64 (-5)] w (VTo (.agg #[.int .i64 21474836480, .int .i64 0, .int .i64 (-21474836480)]) w) := by
  go_enter Try.func9, Try.ntmps9
  go_wp2_with (with_reducible refine store_vec rfl (.tmp 6) (.tmp 13) rfl rfl w.heap.size (21474836480) (0) (-21474836480) rfl rfl _ _ _ (heap_alloc_new _ _) ?_)
  refine bodyPost_ret (results_cell_row rfl _ _ w.heap.size 23 _ _ _ rfl (setRow_heap _ _ _ _ _ _ (heap_alloc_new _ _)) Try.underlying23 rfl vec_size) rfl ?_
  exact ⟨rfl, put_ext _ _ _⟩

set_option maxRecDepth 100000 in
theorem of_0_0_1 (w : World) : Calls Try.prog 9 #[.int .i64 0, .int .i64 0, .int .i64 1] w (VTo (.agg #[.int .i64 0, .int .i64 0, .int .i64 4294967296]) w) := by
  go_enter Try.func9, Try.ntmps9
  go_wp2_with (with_reducible refine store_vec rfl (.tmp 6) (.tmp 13) rfl rfl w.heap.size (0) (0) (4294967296) rfl rfl _ _ _ (heap_alloc_new _ _) ?_)
  refine bodyPost_ret (results_cell_row rfl _ _ w.heap.size 23 _ _ _ rfl (setRow_heap _ _ _ _ _ _ (heap_alloc_new _ _)) Try.underlying23 rfl vec_size) rfl ?_
  exact ⟨rfl, put_ext _ _ _⟩

set_option maxRecDepth 100000 in
theorem of_n1_n1_n1 (w : World) : Calls Try.prog 9 #[.int .i64 (-1), .int .i64 (-1), .int .i64 (-1)] w (VTo (.agg #[.int .i64 (-4294967296), .int .i64 (-4294967296), .int .i64 (-4294967296)]) w) := by
  go_enter Try.func9, Try.ntmps9
  go_wp2_with (with_reducible refine store_vec rfl (.tmp 6) (.tmp 13) rfl rfl w.heap.size (-4294967296) (-4294967296) (-4294967296) rfl rfl _ _ _ (heap_alloc_new _ _) ?_)
  refine bodyPost_ret (results_cell_row rfl _ _ w.heap.size 23 _ _ _ rfl (setRow_heap _ _ _ _ _ _ (heap_alloc_new _ _)) Try.underlying23 rfl vec_size) rfl ?_
  exact ⟨rfl, put_ext _ _ _⟩

set_option maxRecDepth 100000 in
theorem of_1_1_1 (w : World) : Calls Try.prog 9 #[.int .i64 1, .int .i64 1, .int .i64 1] w (VTo (.agg #[.int .i64 4294967296, .int .i64 4294967296, .int .i64 4294967296]) w) := by
  go_enter Try.func9, Try.ntmps9
  go_wp2_with (with_reducible refine store_vec rfl (.tmp 6) (.tmp 13) rfl rfl w.heap.size (4294967296) (4294967296) (4294967296) rfl rfl _ _ _ (heap_alloc_new _ _) ?_)
  refine bodyPost_ret (results_cell_row rfl _ _ w.heap.size 23 _ _ _ rfl (setRow_heap _ _ _ _ _ _ (heap_alloc_new _ _)) Try.underlying23 rfl vec_size) rfl ?_
  exact ⟨rfl, put_ext _ _ _⟩

set_option maxRecDepth 100000 in
theorem of_n1_n1_0 (w : World) : Calls Try.prog 9 #[.int .i64 (-1), .int .i64 (-1), .int .i64 0] w (VTo (.agg #[.int .i64 (-4294967296), .int .i64 (-4294967296), .int .i64 0]) w) := by
  go_enter Try.func9, Try.ntmps9
  go_wp2_with (with_reducible refine store_vec rfl (.tmp 6) (.tmp 13) rfl rfl w.heap.size (-4294967296) (-4294967296) (0) rfl rfl _ _ _ (heap_alloc_new _ _) ?_)
  refine bodyPost_ret (results_cell_row rfl _ _ w.heap.size 23 _ _ _ rfl (setRow_heap _ _ _ _ _ _ (heap_alloc_new _ _)) Try.underlying23 rfl vec_size) rfl ?_
  exact ⟨rfl, put_ext _ _ _⟩

set_option maxRecDepth 100000 in
theorem of_1_n1_0 (w : World) : Calls Try.prog 9 #[.int .i64 1, .int .i64 (-1), .int .i64 0] w (VTo (.agg #[.int .i64 4294967296, .int .i64 (-4294967296), .int .i64 0]) w) := by
  go_enter Try.func9, Try.ntmps9
  go_wp2_with (with_reducible refine store_vec rfl (.tmp 6) (.tmp 13) rfl rfl w.heap.size (4294967296) (-4294967296) (0) rfl rfl _ _ _ (heap_alloc_new _ _) ?_)
  refine bodyPost_ret (results_cell_row rfl _ _ w.heap.size 23 _ _ _ rfl (setRow_heap _ _ _ _ _ _ (heap_alloc_new _ _)) Try.underlying23 rfl vec_size) rfl ?_
  exact ⟨rfl, put_ext _ _ _⟩

set_option maxRecDepth 100000 in
theorem of_0_1_0 (w : World) : Calls Try.prog 9 #[.int .i64 0, .int .i64 1, .int .i64 0] w (VTo (.agg #[.int .i64 0, .int .i64 4294967296, .int .i64 0]) w) := by
  go_enter Try.func9, Try.ntmps9
  go_wp2_with (with_reducible refine store_vec rfl (.tmp 6) (.tmp 13) rfl rfl w.heap.size (0) (4294967296) (0) rfl rfl _ _ _ (heap_alloc_new _ _) ?_)
  refine bodyPost_ret (results_cell_row rfl _ _ w.heap.size 23 _ _ _ rfl (setRow_heap _ _ _ _ _ _ (heap_alloc_new _ _)) Try.underlying23 rfl vec_size) rfl ?_
  exact ⟨rfl, put_ext _ _ _⟩

set_option maxRecDepth 100000 in
theorem of_0_0_n1 (w : World) : Calls Try.prog 9 #[.int .i64 0, .int .i64 0, .int .i64 (-1)] w (VTo (.agg #[.int .i64 0, .int .i64 0, .int .i64 (-4294967296)]) w) := by
  go_enter Try.func9, Try.ntmps9
  go_wp2_with (with_reducible refine store_vec rfl (.tmp 6) (.tmp 13) rfl rfl w.heap.size (0) (0) (-4294967296) rfl rfl _ _ _ (heap_alloc_new _ _) ?_)
  refine bodyPost_ret (results_cell_row rfl _ _ w.heap.size 23 _ _ _ rfl (setRow_heap _ _ _ _ _ _ (heap_alloc_new _ _)) Try.underlying23 rfl vec_size) rfl ?_
  exact ⟨rfl, put_ext _ _ _⟩

set_option maxRecDepth 100000 in
theorem of_0_0_0 (w : World) : Calls Try.prog 9 #[.int .i64 0, .int .i64 0, .int .i64 0] w (VTo (.agg #[.int .i64 0, .int .i64 0, .int .i64 0]) w) := by
  go_enter Try.func9, Try.ntmps9
  go_wp2_with (with_reducible refine store_vec rfl (.tmp 6) (.tmp 13) rfl rfl w.heap.size (0) (0) (0) rfl rfl _ _ _ (heap_alloc_new _ _) ?_)
  refine bodyPost_ret (results_cell_row rfl _ _ w.heap.size 23 _ _ _ rfl (setRow_heap _ _ _ _ _ _ (heap_alloc_new _ _)) Try.underlying23 rfl vec_size) rfl ?_
  exact ⟨rfl, put_ext _ _ _⟩

set_option maxRecDepth 100000 in
theorem of_0_0_2 (w : World) : Calls Try.prog 9 #[.int .i64 0, .int .i64 0, .int .i64 2] w (VTo (.agg #[.int .i64 0, .int .i64 0, .int .i64 8589934592]) w) := by
  go_enter Try.func9, Try.ntmps9
  go_wp2_with (with_reducible refine store_vec rfl (.tmp 6) (.tmp 13) rfl rfl w.heap.size (0) (0) (8589934592) rfl rfl _ _ _ (heap_alloc_new _ _) ?_)
  refine bodyPost_ret (results_cell_row rfl _ _ w.heap.size 23 _ _ _ rfl (setRow_heap _ _ _ _ _ _ (heap_alloc_new _ _)) Try.underlying23 rfl vec_size) rfl ?_
  exact ⟨rfl, put_ext _ _ _⟩

set_option maxRecDepth 100000 in
theorem of_0_0_5 (w : World) : Calls Try.prog 9 #[.int .i64 0, .int .i64 0, .int .i64 5] w (VTo (.agg #[.int .i64 0, .int .i64 0, .int .i64 21474836480]) w) := by
  go_enter Try.func9, Try.ntmps9
  go_wp2_with (with_reducible refine store_vec rfl (.tmp 6) (.tmp 13) rfl rfl w.heap.size (0) (0) (21474836480) rfl rfl _ _ _ (heap_alloc_new _ _) ?_)
  refine bodyPost_ret (results_cell_row rfl _ _ w.heap.size 23 _ _ _ rfl (setRow_heap _ _ _ _ _ _ (heap_alloc_new _ _)) Try.underlying23 rfl vec_size) rfl ?_
  exact ⟨rfl, put_ext _ _ _⟩

set_option maxRecDepth 100000 in
theorem of_0_0_n2 (w : World) : Calls Try.prog 9 #[.int .i64 0, .int .i64 0, .int .i64 (-2)] w (VTo (.agg #[.int .i64 0, .int .i64 0, .int .i64 (-8589934592)]) w) := by
  go_enter Try.func9, Try.ntmps9
  go_wp2_with (with_reducible refine store_vec rfl (.tmp 6) (.tmp 13) rfl rfl w.heap.size (0) (0) (-8589934592) rfl rfl _ _ _ (heap_alloc_new _ _) ?_)
  refine bodyPost_ret (results_cell_row rfl _ _ w.heap.size 23 _ _ _ rfl (setRow_heap _ _ _ _ _ _ (heap_alloc_new _ _)) Try.underlying23 rfl vec_size) rfl ?_
  exact ⟨rfl, put_ext _ _ _⟩

set_option maxRecDepth 100000 in
theorem of_2_0_0 (w : World) : Calls Try.prog 9 #[.int .i64 2, .int .i64 0, .int .i64 0] w (VTo (.agg #[.int .i64 8589934592, .int .i64 0, .int .i64 0]) w) := by
  go_enter Try.func9, Try.ntmps9
  go_wp2_with (with_reducible refine store_vec rfl (.tmp 6) (.tmp 13) rfl rfl w.heap.size (8589934592) (0) (0) rfl rfl _ _ _ (heap_alloc_new _ _) ?_)
  refine bodyPost_ret (results_cell_row rfl _ _ w.heap.size 23 _ _ _ rfl (setRow_heap _ _ _ _ _ _ (heap_alloc_new _ _)) Try.underlying23 rfl vec_size) rfl ?_
  exact ⟨rfl, put_ext _ _ _⟩

set_option maxRecDepth 100000 in
theorem of_1_1_0 (w : World) : Calls Try.prog 9 #[.int .i64 1, .int .i64 1, .int .i64 0] w (VTo (.agg #[.int .i64 4294967296, .int .i64 4294967296, .int .i64 0]) w) := by
  go_enter Try.func9, Try.ntmps9
  go_wp2_with (with_reducible refine store_vec rfl (.tmp 6) (.tmp 13) rfl rfl w.heap.size (4294967296) (4294967296) (0) rfl rfl _ _ _ (heap_alloc_new _ _) ?_)
  refine bodyPost_ret (results_cell_row rfl _ _ w.heap.size 23 _ _ _ rfl (setRow_heap _ _ _ _ _ _ (heap_alloc_new _ _)) Try.underlying23 rfl vec_size) rfl ?_
  exact ⟨rfl, put_ext _ _ _⟩

set_option maxRecDepth 100000 in
theorem from_0_0_n5 (w : World) : Calls Try.prog 8 #[.int .i64 0, .int .i64 0, .int .i64 (-5)] w (VTo (.agg #[.int .i64 0, .int .i64 0, .int .i64 (-21474836480), .int .i64 0, .int .i64 0, .int .i64 4294967296]) w) := by
  have HZ0 := Lib.hid (heap_alloc_new w (.cells #[.int .i64 0, .int .i64 0, .int .i64 0, .int .i64 0, .int .i64 0, .int .i64 0] 25))
  have HB0 := Lib.hid (ext_alloc w (.cells #[.int .i64 0, .int .i64 0, .int .i64 0, .int .i64 0, .int .i64 0, .int .i64 0] 25))
  go_enter Try.func8, Try.ntmps8
  go_wp2_with fail
  refine (of_0_0_n5 _).mono ?_
  rintro e y1 ⟨rfl, hb⟩
  have HZ1 := Lib.hid (vec_step HZ0.out hb)
  have HB1 := Lib.hid (HB0.out.trans (hb.mono HB0.out.size))
  clear HZ0 HB0 hb  
  go_wp2_with fail
  refine (of_0_0_1 _).mono ?_
  rintro e y2 ⟨rfl, hb⟩
  have HZ2 := Lib.hid (vec_step HZ1.out hb)
  have HB2 := Lib.hid (HB1.out.trans (hb.mono HB1.out.size))
  clear HZ1 HB1 hb  
  go_wp2_with (with_reducible refine store_ray rfl (.tmp 6) (.tmp 12) rfl rfl w.heap.size (0) (0) (-21474836480) (0) (0) (4294967296) rfl rfl _ HZ2.out rfl ?_)
  refine bodyPost_ret (results_cell_row rfl _ _ w.heap.size 25 _ _ _ rfl (setRow_heap _ _ _ _ _ _ HZ2.out) Try.underlying25 rfl ray_size) rfl ?_
  exact ⟨rfl, below_setRow HB2.out (Nat.le_refl _) _⟩

set_option maxRecDepth 100000 in
theorem from_5_0_n5 (w : World) : Calls Try.prog 8 #[.int .i64 5, .int .i64 0, .int .i64 (-5)] w (VTo (.agg #[.int .i64 21474836480, .int .i64 0, .int .i64 (-21474836480), .int .i64 0, .int .i64 0, .int .i64 4294967296]) w) := by
  have HZ0 := Lib.hid (heap_alloc_new w (.cells #[.int .i64 0, .int .i64 0, .int .i64 0, .int .i64 0, .int .i64 0, .int .i64 0] 25))
  have HB0 := Lib.hid (ext_alloc w (.cells #[.int .i64 0, .int .i64 0, .int .i64 0, .int .i64 0, .int .i64 0, .int .i64 0] 25))
  go_enter Try.func8, Try.ntmps8
  go_wp2_with fail
  refine (of_5_0_n5 _).mono ?_
  rintro e y3 ⟨rfl, hb⟩
  have HZ1 := Lib.hid (vec_step HZ0.out hb)
  have HB1 := Lib.hid (HB0.out.trans (hb.mono HB0.out.size))
  clear HZ0 HB0 hb  
  go_wp2_with fail
  refine (of_0_0_1 _).mono ?_
  rintro e y4 ⟨rfl, hb⟩
  have HZ2 := Lib.hid (vec_step HZ1.out hb)
  have HB2 := Lib.hid (HB1.out.trans (hb.mono HB1.out.size))
  clear HZ1 HB1 hb  
  go_wp2_with (with_reducible refine store_ray rfl (.tmp 6) (.tmp 12) rfl rfl w.heap.size (21474836480) (0) (-21474836480) (0) (0) (4294967296) rfl rfl _ HZ2.out rfl ?_)
  refine bodyPost_ret (results_cell_row rfl _ _ w.heap.size 25 _ _ _ rfl (setRow_heap _ _ _ _ _ _ HZ2.out) Try.underlying25 rfl ray_size) rfl ?_
  exact ⟨rfl, below_setRow HB2.out (Nat.le_refl _) _⟩

def ballL : List B4 := [⟨⟨0, 0, 0⟩, 4294967296⟩]
def ballM : Msh := ⟨[], [], ballL⟩
/-- the mesh of one ball, its block known by its type -/
def Bm (w : World) (v : Value) : Prop := ∃ g, v = .agg #[.slice none 0 0, .slice none 0 0, .slice (some ⟨g, 0, none⟩) 1 1] ∧ w.heap[g]? = some (.cells #[.int .i64 0, .int .i64 0, .int .i64 0, .int .i64 4294967296] 39)
theorem Bm.mesh {w : World} {v : Value} (h : Bm w v) : IsMesh w v ballM := by
  obtain ⟨g, rfl, hg⟩ := h
  refine ⟨⟨_, _, _, rfl, Recs.nil _, Recs.nil _, ⟨⟨_, 1, rfl, Nat.le_refl _, by unfold maxLen; decide, fun e => by simp at e⟩, fun _ => ⟨g, 0, 1, rfl, Base.lt_of_heap hg, fun i hi k y hy => ?_⟩⟩⟩⟩
  have hi0 : i = 0 := by have : i < 1 := hi; omega
  subst hi0
  rw [cell_of_row _ g _ _ 39 (0, 0) hg]
  have hy2 : (MeshA.enc4 (⟨⟨0, 0, 0⟩, 4294967296⟩ : B4))[k]? = some y := hy
  rw [← hy2]
  have e : 0 + 0 * 4 + k = k := by omega
  rw [e]
  simp [MeshA.enc4]
theorem Bm.below {w w' : World} {v : Value} (h : Bm w v) (hb : Below w.heap.size w w') : Bm w' v := by
  obtain ⟨g, e, hg⟩ := h
  exact ⟨g, e, vec_step hg hb⟩
theorem Bm.row {w : World} {v : Value} {g : Nat} {cur row : Array Value} {T : TypeId} (h : Bm w v) (hg : w.heap[g]? = some (.cells cur T)) (hT : T ≠ 39) : Bm (w.setRow g row) v := by
  obtain ⟨b, e, hb⟩ := h
  have hne : b ≠ g := by
    rintro rfl
    rw [hg] at hb
    simp only [Option.some.injEq, Obj.cells.injEq] at hb
    exact hT hb.2.1
  exact ⟨b, e, (setRow_other _ _ _ _ hne).trans hb⟩
theorem ok_ballM : ballM.ok := by
  refine ⟨by simp [ballM], by simp [ballM], ?_⟩
  intro b hb
  simp only [ballM, ballL, List.mem_cons, List.not_mem_nil, or_false] at hb
  subst hb
  simp only [V3.ok, In]
  decide
theorem mesh_size : (Try.prog.info? 44).map (·.size) = some 3 := by kernel_rfl
theorem store_mesh {ops : Array Oper} {rest : List Oper} {o : Oper} {a : Act} {w : World} {Q : Exit → Act → World → Prop} (hgd : o.guard = none) (x y : Operand) (ho : o.op = .store 44 x y) (hd : o.dst = none)
    (g : Nat) (v0 v1 v2 : Value) (hx : a.eval x = .pointer (some ⟨g, 0, none⟩)) (hy : a.eval y = .agg #[v0, v1, v2]) (cur : Array Value) (hg : w.heap[g]? = some (.cells cur 44)) (hc : cur.size = 3)
    (h1 : v0.oneCell' = true ∧ v1.oneCell' = true ∧ v2.oneCell' = true)
    (h : wpList Try.prog ops Q rest a (w.setRow g #[v0, v1, v2])) : wpList Try.prog ops Q (o :: rest) a w :=
  wpList_store_arr hgd 44 x y ho g _ hx hy 44 cur hg mesh_size (by rw [hc]; rfl) (by intro v hv; simp at hv; rcases hv with rfl | rfl | rfl; exact h1.1; exact h1.2.1; exact h1.2.2) hd h
set_option maxRecDepth 100000 in
theorem bal_any (w : World) : Calls Try.prog 13 #[] w (fun e w' => ∃ v, e = .returned v ∧ Bm w' v ∧ Below w.heap.size w w') := by
  have HZ := Lib.hid (alloc2_0 w (.cells #[.slice none 0 0, .slice none 0 0, .slice none 0 0] 44) (.cells #[.int .i64 0, .int .i64 0, .int .i64 0, .int .i64 4294967296] 39))
  have HN := Lib.hid (alloc2_1 w (.cells #[.slice none 0 0, .slice none 0 0, .slice none 0 0] 44) (.cells #[.int .i64 0, .int .i64 0, .int .i64 0, .int .i64 4294967296] 39))
  have HB := Lib.hid (alloc2_below w (.cells #[.slice none 0 0, .slice none 0 0, .slice none 0 0] 44) (.cells #[.int .i64 0, .int .i64 0, .int .i64 0, .int .i64 4294967296] 39))
  go_enter Try.func13, Try.ntmps13
  go_wp2_with (with_reducible refine store_mesh rfl (.tmp 0) (.tmp 3) rfl rfl w.heap.size (.slice none 0 0) (.slice none 0 0) (.slice (some ⟨w.heap.size + 1, 0, none⟩) 1 1) rfl rfl _ HZ.out rfl ⟨rfl, rfl, rfl⟩ ?_)
  refine bodyPost_ret (results_cell_row rfl _ _ w.heap.size 44 _ _ _ rfl (setRow_heap _ _ _ _ _ _ HZ.out) Try.underlying44 rfl mesh_size) rfl ?_
  exact ⟨_, rfl, ⟨_, rfl, (setRow_other _ _ _ _ (by omega)).trans HN.out⟩, below_setRow HB.out (Nat.le_refl _) _⟩

end Go.Proofs.Ytdmmbhcaejojeaa.HitW
