/- Nearest where there is nothing to ask. -/
import Derived.Test.YtdaokkgenfpmhaaBvhG
set_option linter.unusedVariables false
set_option linter.unusedSimpArgs false
namespace Go.Proofs.Ytdaokkgenfpmhaa.BvhH
open Go Go.RowKit Go.Sort Go.Lib FixM Base Num FixW Qb Qt Qa Qf Qg VecW VecV VecU LightQ LightC MeshM Rec MeshA MeshC MeshD MeshP HitM HitT HitX HitN HitS HitV BvhM BvhA BvhB BvhS BvhC BvhD BvhU BvhW BvhX BvhE BvhF BvhG
theorem al_none (w : World) (g : Nat) (hg : g < w.heap.size) (A B : Obj) : ∀ k v, w.cell? ⟨g, k, none⟩ = some v → ((w.alloc A).alloc B).cell? ⟨g, k, none⟩ = some v := fun k v h => ((alloc2_below w A B).cell (p := ⟨g, k, none⟩) hg).trans h
set_option maxRecDepth 100000 in
set_option maxHeartbeats 16000000 in
theorem near_nil (w : World) (r : Ry) (least : Int) : Calls Try.prog 5 #[.pointer none, rayV r, .int .i64 least] w (NearTo w (htN, 0)) := by
  obtain ⟨⟨oX, oY, oZ⟩, ⟨dX, dY, dZ⟩⟩ := r
  dsimp only [rayV]
  have hB := alloc2_1 w (.cells #[.int .i64 oX, .int .i64 oY, .int .i64 oZ, .int .i64 dX, .int .i64 dY, .int .i64 dZ] 25) (.cells #[.int .i64 0, .int .i64 0, .int .i64 0, .int .i64 0] 38)
  have hB0 := alloc2_below w (.cells #[.int .i64 oX, .int .i64 oY, .int .i64 oZ, .int .i64 dX, .int .i64 dY, .int .i64 dZ] 25) (.cells #[.int .i64 0, .int .i64 0, .int .i64 0, .int .i64 0] 38)
  obtain ⟨W, hW⟩ : ∃ ww, ww = (w.alloc (.cells #[.int .i64 oX, .int .i64 oY, .int .i64 oZ, .int .i64 dX, .int .i64 dY, .int .i64 dZ] 25)).alloc (.cells #[.int .i64 0, .int .i64 0, .int .i64 0, .int .i64 0] 38) := ⟨_, rfl⟩
  rw [← hW] at hB hB0 
  have HZ0 := Lib.hid hB
  have HB0 := Lib.hid hB0
  have HWW := Lib.hid hW
  clear hB hB0 hW
  go_enter Try.func5, Try.ntmps5
  go_upto_region 1 with (fail)
  rw [← HWW.out]
  clear HWW
  go_upto_region 2 with (with_reducible refine store_hit rfl (.tmp 8) (.tmp 19) rfl rfl W.heap.size 0 (-1) 0 0 rfl rfl _ (heap_alloc_new _ _) rfl ?_)
  have hx : Below W.heap.size W ((W.alloc (.cells #[.int .i64 0, .int .i64 0, .int .i64 0, .int .i64 0] 38)).setRow W.heap.size #[.int .i64 0, .int .i64 (-1), .int .i64 0, .int .i64 0]) := below_setRow (ext_alloc W (.cells #[.int .i64 0, .int .i64 0, .int .i64 0, .int .i64 0] 38)) (Nat.le_refl _) _
  have hn : ((W.alloc (.cells #[.int .i64 0, .int .i64 0, .int .i64 0, .int .i64 0] 38)).setRow W.heap.size #[.int .i64 0, .int .i64 (-1), .int .i64 0, .int .i64 0]).heap[W.heap.size]? = some (.cells #[.int .i64 0, .int .i64 (-1), .int .i64 0, .int .i64 0] 38) := setRow_heap _ _ _ _ _ _ (heap_alloc_new _ _)
  obtain ⟨W2, hW⟩ : ∃ ww, ww = (W.alloc (.cells #[.int .i64 0, .int .i64 0, .int .i64 0, .int .i64 0] 38)).setRow W.heap.size #[.int .i64 0, .int .i64 (-1), .int .i64 0, .int .i64 0] := ⟨_, rfl⟩
  rw [← hW] at hx hn  ⊢
  have HZ1 := Lib.hid (vec_step HZ0.out hx)
  have HB1 := Lib.hid (HB0.out.trans (hx.mono HB0.out.size))
  clear hW hx HZ0 HB0
  generalize W.heap.size = g8 at hn ⊢
  have e0 := cell_row hn 0 _ rfl
  have e1 := cell_row hn 1 _ rfl
  have e2 := cell_row hn 2 _ rfl
  have e3 := cell_row hn 3 _ rfl
  clear hn 
  go_wp2_with (with_reducible refine store_hit rfl (.tmp 6) (.tmp 37) rfl rfl (w.heap.size + 1) 0 (-1) 0 0 rfl rfl _ HZ1.out rfl ?_)
  refine bodyPost_ret (results_row_tmp rfl _ _ _ (w.heap.size + 1) 38 _ _ _ rfl (setRow_heap _ _ _ _ _ _ HZ1.out) Try.underlying38 hit_size) rfl ?_
  exact ⟨rfl, below_setRow HB1.out (Nat.le_succ _) _⟩
set_option maxRecDepth 100000 in
set_option maxHeartbeats 16000000 in
theorem near_unmade (w : World) (gT : Nat) (hg : gT < w.heap.size) (h0 : w.cell? ⟨gT, 0, none⟩ = some (.bool false)) (r : Ry) (least : Int) : Calls Try.prog 5 #[.pointer (some ⟨gT, 0, none⟩), rayV r, .int .i64 least] w (NearTo w (htN, 0)) := by
  obtain ⟨⟨oX, oY, oZ⟩, ⟨dX, dY, dZ⟩⟩ := r
  dsimp only [rayV]
  have hB := alloc2_1 w (.cells #[.int .i64 oX, .int .i64 oY, .int .i64 oZ, .int .i64 dX, .int .i64 dY, .int .i64 dZ] 25) (.cells #[.int .i64 0, .int .i64 0, .int .i64 0, .int .i64 0] 38)
  have hB0 := alloc2_below w (.cells #[.int .i64 oX, .int .i64 oY, .int .i64 oZ, .int .i64 dX, .int .i64 dY, .int .i64 dZ] 25) (.cells #[.int .i64 0, .int .i64 0, .int .i64 0, .int .i64 0] 38)
  have k0 := al_none w gT hg (.cells #[.int .i64 oX, .int .i64 oY, .int .i64 oZ, .int .i64 dX, .int .i64 dY, .int .i64 dZ] 25) (.cells #[.int .i64 0, .int .i64 0, .int .i64 0, .int .i64 0] 38) 0 _ h0
  obtain ⟨W, hW⟩ : ∃ ww, ww = (w.alloc (.cells #[.int .i64 oX, .int .i64 oY, .int .i64 oZ, .int .i64 dX, .int .i64 dY, .int .i64 dZ] 25)).alloc (.cells #[.int .i64 0, .int .i64 0, .int .i64 0, .int .i64 0] 38) := ⟨_, rfl⟩
  rw [← hW] at hB hB0 k0
  have HZ0 := Lib.hid hB
  have HB0 := Lib.hid hB0
  have HWW := Lib.hid hW
  clear hB hB0 hW
  go_enter Try.func5, Try.ntmps5
  go_upto_region 1 with (fail)
  rw [← HWW.out]
  clear HWW
  go_upto_region 2 with (with_reducible refine store_hit rfl (.tmp 8) (.tmp 19) rfl rfl W.heap.size 0 (-1) 0 0 rfl rfl _ (heap_alloc_new _ _) rfl ?_)
  have hx : Below W.heap.size W ((W.alloc (.cells #[.int .i64 0, .int .i64 0, .int .i64 0, .int .i64 0] 38)).setRow W.heap.size #[.int .i64 0, .int .i64 (-1), .int .i64 0, .int .i64 0]) := below_setRow (ext_alloc W (.cells #[.int .i64 0, .int .i64 0, .int .i64 0, .int .i64 0] 38)) (Nat.le_refl _) _
  have hn : ((W.alloc (.cells #[.int .i64 0, .int .i64 0, .int .i64 0, .int .i64 0] 38)).setRow W.heap.size #[.int .i64 0, .int .i64 (-1), .int .i64 0, .int .i64 0]).heap[W.heap.size]? = some (.cells #[.int .i64 0, .int .i64 (-1), .int .i64 0, .int .i64 0] 38) := setRow_heap _ _ _ _ _ _ (heap_alloc_new _ _)
  have q0 := (hx.cell (p := ⟨gT, 0, none⟩) (Nat.lt_of_lt_of_le hg HB0.out.size)).trans k0
  obtain ⟨W2, hW⟩ : ∃ ww, ww = (W.alloc (.cells #[.int .i64 0, .int .i64 0, .int .i64 0, .int .i64 0] 38)).setRow W.heap.size #[.int .i64 0, .int .i64 (-1), .int .i64 0, .int .i64 0] := ⟨_, rfl⟩
  rw [← hW] at hx hn q0 ⊢
  have HZ1 := Lib.hid (vec_step HZ0.out hx)
  have HB1 := Lib.hid (HB0.out.trans (hx.mono HB0.out.size))
  clear hW hx HZ0 HB0
  generalize W.heap.size = g8 at hn ⊢
  have e0 := cell_row hn 0 _ rfl
  have e1 := cell_row hn 1 _ rfl
  have e2 := cell_row hn 2 _ rfl
  have e3 := cell_row hn 3 _ rfl
  clear hn k0
  go_wp2_with (with_reducible refine store_hit rfl (.tmp 6) (.tmp 37) rfl rfl (w.heap.size + 1) 0 (-1) 0 0 rfl rfl _ HZ1.out rfl ?_)
  refine bodyPost_ret (results_row_tmp rfl _ _ _ (w.heap.size + 1) 38 _ _ _ rfl (setRow_heap _ _ _ _ _ _ HZ1.out) Try.underlying38 hit_size) rfl ?_
  exact ⟨rfl, below_setRow HB1.out (Nat.le_succ _) _⟩
set_option maxRecDepth 100000 in
set_option maxHeartbeats 16000000 in
theorem near_zero (w : World) (gT : Nat) (hg : gT < w.heap.size) (h0 : w.cell? ⟨gT, 0, none⟩ = some (.bool true)) (a : Option Addr) (cp : Nat) (h4 : w.cell? ⟨gT, 4, none⟩ = some (.slice a 0 cp)) (r : Ry) (least : Int) : Calls Try.prog 5 #[.pointer (some ⟨gT, 0, none⟩), rayV r, .int .i64 least] w (NearTo w (htN, 0)) := by
  obtain ⟨⟨oX, oY, oZ⟩, ⟨dX, dY, dZ⟩⟩ := r
  dsimp only [rayV]
  have hB := alloc2_1 w (.cells #[.int .i64 oX, .int .i64 oY, .int .i64 oZ, .int .i64 dX, .int .i64 dY, .int .i64 dZ] 25) (.cells #[.int .i64 0, .int .i64 0, .int .i64 0, .int .i64 0] 38)
  have hB0 := alloc2_below w (.cells #[.int .i64 oX, .int .i64 oY, .int .i64 oZ, .int .i64 dX, .int .i64 dY, .int .i64 dZ] 25) (.cells #[.int .i64 0, .int .i64 0, .int .i64 0, .int .i64 0] 38)
  have k0 := al_none w gT hg (.cells #[.int .i64 oX, .int .i64 oY, .int .i64 oZ, .int .i64 dX, .int .i64 dY, .int .i64 dZ] 25) (.cells #[.int .i64 0, .int .i64 0, .int .i64 0, .int .i64 0] 38) 0 _ h0
  have k4 := al_none w gT hg (.cells #[.int .i64 oX, .int .i64 oY, .int .i64 oZ, .int .i64 dX, .int .i64 dY, .int .i64 dZ] 25) (.cells #[.int .i64 0, .int .i64 0, .int .i64 0, .int .i64 0] 38) 4 _ h4
  obtain ⟨W, hW⟩ : ∃ ww, ww = (w.alloc (.cells #[.int .i64 oX, .int .i64 oY, .int .i64 oZ, .int .i64 dX, .int .i64 dY, .int .i64 dZ] 25)).alloc (.cells #[.int .i64 0, .int .i64 0, .int .i64 0, .int .i64 0] 38) := ⟨_, rfl⟩
  rw [← hW] at hB hB0 k0 k4
  have HZ0 := Lib.hid hB
  have HB0 := Lib.hid hB0
  have HWW := Lib.hid hW
  clear hB hB0 hW
  go_enter Try.func5, Try.ntmps5
  go_upto_region 1 with (fail)
  rw [← HWW.out]
  clear HWW
  go_upto_region 2 with (with_reducible refine store_hit rfl (.tmp 8) (.tmp 19) rfl rfl W.heap.size 0 (-1) 0 0 rfl rfl _ (heap_alloc_new _ _) rfl ?_)
  have hx : Below W.heap.size W ((W.alloc (.cells #[.int .i64 0, .int .i64 0, .int .i64 0, .int .i64 0] 38)).setRow W.heap.size #[.int .i64 0, .int .i64 (-1), .int .i64 0, .int .i64 0]) := below_setRow (ext_alloc W (.cells #[.int .i64 0, .int .i64 0, .int .i64 0, .int .i64 0] 38)) (Nat.le_refl _) _
  have hn : ((W.alloc (.cells #[.int .i64 0, .int .i64 0, .int .i64 0, .int .i64 0] 38)).setRow W.heap.size #[.int .i64 0, .int .i64 (-1), .int .i64 0, .int .i64 0]).heap[W.heap.size]? = some (.cells #[.int .i64 0, .int .i64 (-1), .int .i64 0, .int .i64 0] 38) := setRow_heap _ _ _ _ _ _ (heap_alloc_new _ _)
  have q0 := (hx.cell (p := ⟨gT, 0, none⟩) (Nat.lt_of_lt_of_le hg HB0.out.size)).trans k0
  have q4 := (hx.cell (p := ⟨gT, 4, none⟩) (Nat.lt_of_lt_of_le hg HB0.out.size)).trans k4
  obtain ⟨W2, hW⟩ : ∃ ww, ww = (W.alloc (.cells #[.int .i64 0, .int .i64 0, .int .i64 0, .int .i64 0] 38)).setRow W.heap.size #[.int .i64 0, .int .i64 (-1), .int .i64 0, .int .i64 0] := ⟨_, rfl⟩
  rw [← hW] at hx hn q0 q4 ⊢
  have HZ1 := Lib.hid (vec_step HZ0.out hx)
  have HB1 := Lib.hid (HB0.out.trans (hx.mono HB0.out.size))
  clear hW hx HZ0 HB0
  generalize W.heap.size = g8 at hn ⊢
  have e0 := cell_row hn 0 _ rfl
  have e1 := cell_row hn 1 _ rfl
  have e2 := cell_row hn 2 _ rfl
  have e3 := cell_row hn 3 _ rfl
  clear hn k0 k4
  go_wp2_with (with_reducible refine store_hit rfl (.tmp 6) (.tmp 37) rfl rfl (w.heap.size + 1) 0 (-1) 0 0 rfl rfl _ HZ1.out rfl ?_)
  refine bodyPost_ret (results_row_tmp rfl _ _ _ (w.heap.size + 1) 38 _ _ _ rfl (setRow_heap _ _ _ _ _ _ HZ1.out) Try.underlying38 hit_size) rfl ?_
  exact ⟨rfl, below_setRow HB1.out (Nat.le_succ _) _⟩
theorem near_any (w : World) (gT : Nat) (m : Msh) (h : TreeAt w gT m) (ok : m.ok) (hl : cntM m ≤ 4096) (r : Ry) (hr : r.ok) (least : Int) : Calls Try.prog 5 #[.pointer (some ⟨gT, 0, none⟩), rayV r, .int .i64 least] w (NearTo w (nearestF m r least)) := by
  by_cases hc : cntM m = 0
  · rw [ans_none m r least hc]
    obtain ⟨v0, v1, v2, vn, vo, ht0, -, hns, -⟩ := h.is_
    have e : flatM m = [] := by unfold flatM; rw [if_pos hc]
    rw [e] at hns
    obtain ⟨a, cp, rfl, -⟩ := hns.open_
    exact near_zero w gT (Base.lt_of_heap ht0) (cell_row ht0 0 _ rfl) a cp (cell_row ht0 4 _ rfl) r least
  · exact near_some w gT m h ok hc hl r hr least
end Go.Proofs.Ytdaokkgenfpmhaa.BvhH
