/- Contracts at the numbers of HitNumbers. -/
import Derived.Test.YtdmmbhcaejojeaaHitQ
set_option linter.unusedVariables false
set_option linter.unusedSimpArgs false
namespace Go.Proofs.Ytdmmbhcaejojeaa.HitN1
open Go.RowKit Go.Sort FixM Base Num FixW Qb Qt Qa Qf Qg Qr Qs VecW VecV VecU LightQ LightC MeshM Rec MeshA MeshB MeshC MeshD MeshE MeshP MeshEq HitM HitT HitB HitX HitN HitC HitS HitV HitW HitY HitZ HitQ
theorem recs_heap {α : Type} {c : Nat} {enc : α → List Value} (hlen : ∀ x, (enc x).length = c) (E : Nat) (w : World) (g : Nat) (l : List α) (row : Array Value) (hg : w.heap[g]? = some (.cells row E)) (hr : row.toList = l.flatMap enc) (hm : l.length ≤ maxLen) : Recs c enc w (.slice (some ⟨g, 0, none⟩) l.length l.length) l where
  shape := ⟨_, l.length, rfl, Nat.le_refl _, hm, fun e => by simp at e⟩
  cells := fun _ => ⟨g, 0, l.length, rfl, Base.lt_of_heap hg, fun i hi k y hy => by
    have hk : k < c := by
      rcases Nat.lt_or_ge k c with h | h
      · exact h
      · rw [List.getElem?_eq_none (by rw [hlen]; exact h)] at hy; simp at hy
    rw [cell_of_row _ g _ row E (0, 0) hg, Nat.zero_add]
    have e : row[i * c + k]? = (l.flatMap enc)[i * c + k]? := by rw [← hr]; simp
    rw [e, flat_at hlen l i k hi hk]; exact hy⟩

set_option maxRecDepth 100000 in
theorem from_1_1_0 (w : World) : Calls Try.prog 8 #[.int .i64 1, .int .i64 1, .int .i64 0] w (VTo (.agg #[.int .i64 4294967296, .int .i64 4294967296, .int .i64 0, .int .i64 0, .int .i64 0, .int .i64 4294967296]) w) := by
  have HZ0 := Lib.hid (heap_alloc_new w (.cells #[.int .i64 0, .int .i64 0, .int .i64 0, .int .i64 0, .int .i64 0, .int .i64 0] 25))
  have HB0 := Lib.hid (ext_alloc w (.cells #[.int .i64 0, .int .i64 0, .int .i64 0, .int .i64 0, .int .i64 0, .int .i64 0] 25))
  go_enter Try.func8, Try.ntmps8
  go_wp2_with fail
  refine (of_1_1_0 _).mono ?_
  rintro e y1 ⟨rfl, hb⟩
  have HZ1 := Lib.hid (vec_step HZ0.out hb)
  have HB1 := Lib.hid (HB0.out.trans (hb.mono HB0.out.size))
  clear HZ0 HB0 hb  
  go_wp2_with fail
  refine (of_0_0_1 _).mono ?_
  rintro e y2 ⟨rfl, hb⟩
  have HZ2 := Lib.hid (vec_step HZ1.out hb)
  have HB2 := Lib.hid (HB1.out.trans (hb.mono HB1.out.size))
  clear HZ1 HB1 hb  
  go_wp2_with (with_reducible refine store_ray rfl (.tmp 6) (.tmp 12) rfl rfl w.heap.size (4294967296) (4294967296) (0) (0) (0) (4294967296) rfl rfl _ HZ2.out rfl ?_)
  refine bodyPost_ret (results_cell_row rfl _ _ w.heap.size 25 _ _ _ rfl (setRow_heap _ _ _ _ _ _ HZ2.out) Try.underlying25 rfl ray_size) rfl ?_
  exact ⟨rfl, below_setRow HB2.out (Nat.le_refl _) _⟩

set_option maxRecDepth 100000 in
theorem from_0_0_2 (w : World) : Calls Try.prog 8 #[.int .i64 0, .int .i64 0, .int .i64 2] w (VTo (.agg #[.int .i64 0, .int .i64 0, .int .i64 8589934592, .int .i64 0, .int .i64 0, .int .i64 4294967296]) w) := by
  have HZ0 := Lib.hid (heap_alloc_new w (.cells #[.int .i64 0, .int .i64 0, .int .i64 0, .int .i64 0, .int .i64 0, .int .i64 0] 25))
  have HB0 := Lib.hid (ext_alloc w (.cells #[.int .i64 0, .int .i64 0, .int .i64 0, .int .i64 0, .int .i64 0, .int .i64 0] 25))
  go_enter Try.func8, Try.ntmps8
  go_wp2_with fail
  refine (of_0_0_2 _).mono ?_
  rintro e y3 ⟨rfl, hb⟩
  have HZ1 := Lib.hid (vec_step HZ0.out hb)
  have HB1 := Lib.hid (HB0.out.trans (hb.mono HB0.out.size))
  clear HZ0 HB0 hb  
  go_wp2_with fail
  refine (of_0_0_1 _).mono ?_
  rintro e y4 ⟨rfl, hb⟩
  have HZ2 := Lib.hid (vec_step HZ1.out hb)
  have HB2 := Lib.hid (HB1.out.trans (hb.mono HB1.out.size))
  clear HZ1 HB1 hb  
  go_wp2_with (with_reducible refine store_ray rfl (.tmp 6) (.tmp 12) rfl rfl w.heap.size (0) (0) (8589934592) (0) (0) (4294967296) rfl rfl _ HZ2.out rfl ?_)
  refine bodyPost_ret (results_cell_row rfl _ _ w.heap.size 25 _ _ _ rfl (setRow_heap _ _ _ _ _ _ HZ2.out) Try.underlying25 rfl ray_size) rfl ?_
  exact ⟨rfl, below_setRow HB2.out (Nat.le_refl _) _⟩

set_option maxRecDepth 100000 in
theorem from_0_0_5 (w : World) : Calls Try.prog 8 #[.int .i64 0, .int .i64 0, .int .i64 5] w (VTo (.agg #[.int .i64 0, .int .i64 0, .int .i64 21474836480, .int .i64 0, .int .i64 0, .int .i64 4294967296]) w) := by
  have HZ0 := Lib.hid (heap_alloc_new w (.cells #[.int .i64 0, .int .i64 0, .int .i64 0, .int .i64 0, .int .i64 0, .int .i64 0] 25))
  have HB0 := Lib.hid (ext_alloc w (.cells #[.int .i64 0, .int .i64 0, .int .i64 0, .int .i64 0, .int .i64 0, .int .i64 0] 25))
  go_enter Try.func8, Try.ntmps8
  go_wp2_with fail
  refine (of_0_0_5 _).mono ?_
  rintro e y5 ⟨rfl, hb⟩
  have HZ1 := Lib.hid (vec_step HZ0.out hb)
  have HB1 := Lib.hid (HB0.out.trans (hb.mono HB0.out.size))
  clear HZ0 HB0 hb  
  go_wp2_with fail
  refine (of_0_0_1 _).mono ?_
  rintro e y6 ⟨rfl, hb⟩
  have HZ2 := Lib.hid (vec_step HZ1.out hb)
  have HB2 := Lib.hid (HB1.out.trans (hb.mono HB1.out.size))
  clear HZ1 HB1 hb  
  go_wp2_with (with_reducible refine store_ray rfl (.tmp 6) (.tmp 12) rfl rfl w.heap.size (0) (0) (21474836480) (0) (0) (4294967296) rfl rfl _ HZ2.out rfl ?_)
  refine bodyPost_ret (results_cell_row rfl _ _ w.heap.size 25 _ _ _ rfl (setRow_heap _ _ _ _ _ _ HZ2.out) Try.underlying25 rfl ray_size) rfl ?_
  exact ⟨rfl, below_setRow HB2.out (Nat.le_refl _) _⟩

set_option maxRecDepth 100000 in
theorem from_n1_n1_n1 (w : World) : Calls Try.prog 8 #[.int .i64 (-1), .int .i64 (-1), .int .i64 (-1)] w (VTo (.agg #[.int .i64 (-4294967296), .int .i64 (-4294967296), .int .i64 (-4294967296), .int .i64 0, .int .i64 0, .int .i64 4294967296]) w) := by
  have HZ0 := Lib.hid (heap_alloc_new w (.cells #[.int .i64 0, .int .i64 0, .int .i64 0, .int .i64 0, .int .i64 0, .int .i64 0] 25))
  have HB0 := Lib.hid (ext_alloc w (.cells #[.int .i64 0, .int .i64 0, .int .i64 0, .int .i64 0, .int .i64 0, .int .i64 0] 25))
  go_enter Try.func8, Try.ntmps8
  go_wp2_with fail
  refine (of_n1_n1_n1 _).mono ?_
  rintro e y7 ⟨rfl, hb⟩
  have HZ1 := Lib.hid (vec_step HZ0.out hb)
  have HB1 := Lib.hid (HB0.out.trans (hb.mono HB0.out.size))
  clear HZ0 HB0 hb  
  go_wp2_with fail
  refine (of_0_0_1 _).mono ?_
  rintro e y8 ⟨rfl, hb⟩
  have HZ2 := Lib.hid (vec_step HZ1.out hb)
  have HB2 := Lib.hid (HB1.out.trans (hb.mono HB1.out.size))
  clear HZ1 HB1 hb  
  go_wp2_with (with_reducible refine store_ray rfl (.tmp 6) (.tmp 12) rfl rfl w.heap.size (-4294967296) (-4294967296) (-4294967296) (0) (0) (4294967296) rfl rfl _ HZ2.out rfl ?_)
  refine bodyPost_ret (results_cell_row rfl _ _ w.heap.size 25 _ _ _ rfl (setRow_heap _ _ _ _ _ _ HZ2.out) Try.underlying25 rfl ray_size) rfl ?_
  exact ⟨rfl, below_setRow HB2.out (Nat.le_refl _) _⟩

set_option maxRecDepth 100000 in
theorem from_0_0_0 (w : World) : Calls Try.prog 8 #[.int .i64 0, .int .i64 0, .int .i64 0] w (VTo (.agg #[.int .i64 0, .int .i64 0, .int .i64 0, .int .i64 0, .int .i64 0, .int .i64 4294967296]) w) := by
  have HZ0 := Lib.hid (heap_alloc_new w (.cells #[.int .i64 0, .int .i64 0, .int .i64 0, .int .i64 0, .int .i64 0, .int .i64 0] 25))
  have HB0 := Lib.hid (ext_alloc w (.cells #[.int .i64 0, .int .i64 0, .int .i64 0, .int .i64 0, .int .i64 0, .int .i64 0] 25))
  go_enter Try.func8, Try.ntmps8
  go_wp2_with fail
  refine (of_0_0_0 _).mono ?_
  rintro e y9 ⟨rfl, hb⟩
  have HZ1 := Lib.hid (vec_step HZ0.out hb)
  have HB1 := Lib.hid (HB0.out.trans (hb.mono HB0.out.size))
  clear HZ0 HB0 hb  
  go_wp2_with fail
  refine (of_0_0_1 _).mono ?_
  rintro e y10 ⟨rfl, hb⟩
  have HZ2 := Lib.hid (vec_step HZ1.out hb)
  have HB2 := Lib.hid (HB1.out.trans (hb.mono HB1.out.size))
  clear HZ1 HB1 hb  
  go_wp2_with (with_reducible refine store_ray rfl (.tmp 6) (.tmp 12) rfl rfl w.heap.size (0) (0) (0) (0) (0) (4294967296) rfl rfl _ HZ2.out rfl ?_)
  refine bodyPost_ret (results_cell_row rfl _ _ w.heap.size 25 _ _ _ rfl (setRow_heap _ _ _ _ _ _ HZ2.out) Try.underlying25 rfl ray_size) rfl ?_
  exact ⟨rfl, below_setRow HB2.out (Nat.le_refl _) _⟩
def r1 : Ry := ⟨⟨4294967296, 4294967296, 0⟩, ⟨0, 0, 4294967296⟩⟩
theorem ok_r1 : r1.ok := by simp only [Ry.ok, r1, V3.ok, In]; decide
def r2 : Ry := ⟨⟨0, 0, 8589934592⟩, ⟨0, 0, 4294967296⟩⟩
theorem ok_r2 : r2.ok := by simp only [Ry.ok, r2, V3.ok, In]; decide
def r3 : Ry := ⟨⟨0, 0, 21474836480⟩, ⟨0, 0, -8589934592⟩⟩
theorem ok_r3 : r3.ok := by simp only [Ry.ok, r3, V3.ok, In]; decide
def r4 : Ry := ⟨⟨0, 0, 0⟩, ⟨0, 0, 0⟩⟩
theorem ok_r4 : r4.ok := by simp only [Ry.ok, r4, V3.ok, In]; decide
def r5 : Ry := ⟨⟨8589934592, 0, 0⟩, ⟨0, 0, 0⟩⟩
theorem ok_r5 : r5.ok := by simp only [Ry.ok, r5, V3.ok, In]; decide
def r6 : Ry := ⟨⟨0, 0, 21474836480⟩, ⟨0, 0, 4294967296⟩⟩
theorem ok_r6 : r6.ok := by simp only [Ry.ok, r6, V3.ok, In]; decide
def r7 : Ry := ⟨⟨-4294967296, -4294967296, -4294967296⟩, ⟨0, 0, 4294967296⟩⟩
theorem ok_r7 : r7.ok := by simp only [Ry.ok, r7, V3.ok, In]; decide
def r8 : Ry := ⟨⟨0, 0, 0⟩, ⟨0, 0, 4294967296⟩⟩
theorem ok_r8 : r8.ok := by simp only [Ry.ok, r8, V3.ok, In]; decide
def r9 : Ry := ⟨⟨0, 0, 0⟩, ⟨0, 0, -4294967296⟩⟩
theorem ok_r9 : r9.ok := by simp only [Ry.ok, r9, V3.ok, In]; decide
def bD : Bx := ⟨⟨4294967296, 4294967296, 4294967296⟩, ⟨-4294967296, -4294967296, -4294967296⟩⟩
theorem okD : HitM.Bx.ok bD := by simp only [HitM.Bx.ok, bD, V3.ok, In]; decide
theorem eBox_r1bU : boxH r1 bU = some 0 := by kernel_rfl
theorem cBox_r1bU (w : World) : Calls Try.prog 10 #[.agg #[.int .i64 4294967296, .int .i64 4294967296, .int .i64 0, .int .i64 0, .int .i64 0, .int .i64 4294967296], .agg #[.int .i64 (-4294967296), .int .i64 (-4294967296), .int .i64 (-4294967296), .int .i64 4294967296, .int .i64 4294967296, .int .i64 4294967296]] w (VTo (.tuple #[.int .i64 0, .bool true]) w) := by
  have h := hbox_any r1 bU ok_r1 okU w
  rw [eBox_r1bU] at h
  exact h
theorem eBox_r2bU : boxH r2 bU = none := by kernel_rfl
theorem cBox_r2bU (w : World) : Calls Try.prog 10 #[.agg #[.int .i64 0, .int .i64 0, .int .i64 8589934592, .int .i64 0, .int .i64 0, .int .i64 4294967296], .agg #[.int .i64 (-4294967296), .int .i64 (-4294967296), .int .i64 (-4294967296), .int .i64 4294967296, .int .i64 4294967296, .int .i64 4294967296]] w (VTo (.tuple #[.int .i64 0, .bool false]) w) := by
  have h := hbox_any r2 bU ok_r2 okU w
  rw [eBox_r2bU] at h
  exact h
theorem eBox_r3bU : boxH r3 bU = some 8589934592 := by kernel_rfl
theorem cBox_r3bU (w : World) : Calls Try.prog 10 #[.agg #[.int .i64 0, .int .i64 0, .int .i64 21474836480, .int .i64 0, .int .i64 0, .int .i64 (-8589934592)], .agg #[.int .i64 (-4294967296), .int .i64 (-4294967296), .int .i64 (-4294967296), .int .i64 4294967296, .int .i64 4294967296, .int .i64 4294967296]] w (VTo (.tuple #[.int .i64 8589934592, .bool true]) w) := by
  have h := hbox_any r3 bU ok_r3 okU w
  rw [eBox_r3bU] at h
  exact h
theorem eBox_r4bU : boxH r4 bU = some 0 := by kernel_rfl
theorem cBox_r4bU (w : World) : Calls Try.prog 10 #[.agg #[.int .i64 0, .int .i64 0, .int .i64 0, .int .i64 0, .int .i64 0, .int .i64 0], .agg #[.int .i64 (-4294967296), .int .i64 (-4294967296), .int .i64 (-4294967296), .int .i64 4294967296, .int .i64 4294967296, .int .i64 4294967296]] w (VTo (.tuple #[.int .i64 0, .bool true]) w) := by
  have h := hbox_any r4 bU ok_r4 okU w
  rw [eBox_r4bU] at h
  exact h
theorem eBox_r5bU : boxH r5 bU = none := by kernel_rfl
theorem cBox_r5bU (w : World) : Calls Try.prog 10 #[.agg #[.int .i64 8589934592, .int .i64 0, .int .i64 0, .int .i64 0, .int .i64 0, .int .i64 0], .agg #[.int .i64 (-4294967296), .int .i64 (-4294967296), .int .i64 (-4294967296), .int .i64 4294967296, .int .i64 4294967296, .int .i64 4294967296]] w (VTo (.tuple #[.int .i64 0, .bool false]) w) := by
  have h := hbox_any r5 bU ok_r5 okU w
  rw [eBox_r5bU] at h
  exact h
theorem eBox_rAbD : boxH rA bD = none := by kernel_rfl
theorem cBox_rAbD (w : World) : Calls Try.prog 10 #[.agg #[.int .i64 0, .int .i64 0, .int .i64 (-21474836480), .int .i64 0, .int .i64 0, .int .i64 4294967296], .agg #[.int .i64 4294967296, .int .i64 4294967296, .int .i64 4294967296, .int .i64 (-4294967296), .int .i64 (-4294967296), .int .i64 (-4294967296)]] w (VTo (.tuple #[.int .i64 0, .bool false]) w) := by
  have h := hbox_any rA bD okA okD w
  rw [eBox_rAbD] at h
  exact h
def q0 : V3 := ⟨0, 0, 0⟩
def q1 : V3 := ⟨0, 0, 4294967296⟩
def q2 : V3 := ⟨0, 4294967296, 0⟩
theorem okq : q0.ok ∧ q1.ok ∧ q2.ok := by simp only [q0, q1, q2, V3.ok, In]; decide
theorem eTri_rAq0 : triH rA q0 q1 q2 = none := by kernel_rfl
theorem cTri_rAq0 (w : World) : Calls Try.prog 11 #[.agg #[.int .i64 0, .int .i64 0, .int .i64 (-21474836480), .int .i64 0, .int .i64 0, .int .i64 4294967296], .agg #[.int .i64 0, .int .i64 0, .int .i64 0], .agg #[.int .i64 0, .int .i64 0, .int .i64 4294967296], .agg #[.int .i64 0, .int .i64 4294967296, .int .i64 0]] w (VTo (.tuple #[.agg #[.int .i64 0, .int .i64 0, .int .i64 0, .int .i64 0], .bool false]) w) := by
  have h := tri_any rA q0 q1 q2 okA okq.1 okq.2.1 okq.2.2 w
  rw [eTri_rAq0] at h
  exact h
theorem eTri_r6pA : triH r6 pA pB pC = none := by kernel_rfl
theorem cTri_r6pA (w : World) : Calls Try.prog 11 #[.agg #[.int .i64 0, .int .i64 0, .int .i64 21474836480, .int .i64 0, .int .i64 0, .int .i64 4294967296], .agg #[.int .i64 (-4294967296), .int .i64 (-4294967296), .int .i64 0], .agg #[.int .i64 4294967296, .int .i64 (-4294967296), .int .i64 0], .agg #[.int .i64 0, .int .i64 4294967296, .int .i64 0]] w (VTo (.tuple #[.agg #[.int .i64 0, .int .i64 0, .int .i64 0, .int .i64 0], .bool false]) w) := by
  have h := tri_any r6 pA pB pC ok_r6 okp.1 okp.2.1 okp.2.2 w
  rw [eTri_r6pA] at h
  exact h
theorem eTri_r7pA : triH r7 pA pB pC = some ⟨4294967296, 0, 0, 0⟩ := by kernel_rfl
theorem cTri_r7pA (w : World) : Calls Try.prog 11 #[.agg #[.int .i64 (-4294967296), .int .i64 (-4294967296), .int .i64 (-4294967296), .int .i64 0, .int .i64 0, .int .i64 4294967296], .agg #[.int .i64 (-4294967296), .int .i64 (-4294967296), .int .i64 0], .agg #[.int .i64 4294967296, .int .i64 (-4294967296), .int .i64 0], .agg #[.int .i64 0, .int .i64 4294967296, .int .i64 0]] w (VTo (.tuple #[.agg #[.int .i64 4294967296, .int .i64 0, .int .i64 0, .int .i64 0], .bool true]) w) := by
  have h := tri_any r7 pA pB pC ok_r7 okp.1 okp.2.1 okp.2.2 w
  rw [eTri_r7pA] at h
  exact h
theorem eBal_r8 : ballH r8 b0 = some (-4294967296, 4294967296) := by kernel_rfl
theorem cBal_r8 (w : World) : Calls Try.prog 12 #[.agg #[.int .i64 0, .int .i64 0, .int .i64 0, .int .i64 0, .int .i64 0, .int .i64 4294967296], .agg #[.int .i64 0, .int .i64 0, .int .i64 0, .int .i64 4294967296]] w (VTo (.tuple #[.int .i64 (-4294967296), .int .i64 4294967296, .bool true]) w) := by
  have h := ball_any r8 b0 ok_r8 (by simp only [b0, V3.ok, In]; decide) (by simp only [b0, In]; decide) w
  rw [eBal_r8] at h
  exact h
theorem eBal_r4 : ballH r4 b0 = none := by kernel_rfl
theorem cBal_r4 (w : World) : Calls Try.prog 12 #[.agg #[.int .i64 0, .int .i64 0, .int .i64 0, .int .i64 0, .int .i64 0, .int .i64 0], .agg #[.int .i64 0, .int .i64 0, .int .i64 0, .int .i64 4294967296]] w (VTo (.tuple #[.int .i64 0, .int .i64 0, .bool false]) w) := by
  have h := ball_any r4 b0 ok_r4 (by simp only [b0, V3.ok, In]; decide) (by simp only [b0, In]; decide) w
  rw [eBal_r4] at h
  exact h
def twL : List V3 := [pA, pB, pC]
def twT : List V3 := [⟨0, 1, 2⟩, ⟨0, 1, 2⟩, ⟨0, 1, 5⟩]
def twB : List B4 := [⟨⟨0, 0, 4294967296⟩, 4294967296⟩]
def twM : Msh := ⟨twL, twT, twB⟩
def nilM : Msh := ⟨[], [], []⟩
theorem ok_tw : twM.ok := by
  refine ⟨?_, ?_, ?_⟩ <;> intro b hb <;> simp only [twM, twL, twT, twB, List.mem_cons, List.not_mem_nil, or_false] at hb
  · rcases hb with rfl | rfl | rfl; exact okp.1; exact okp.2.1; exact okp.2.2
  · rcases hb with rfl | rfl | rfl <;> (simp only [V3.ok, In]; decide)
  · subst hb; simp only [V3.ok, In]; decide
theorem ok_nilM : nilM.ok := by refine ⟨?_, ?_, ?_⟩ <;> intro b hb <;> simp [nilM] at hb
theorem is_nil (w : World) : IsMesh w (.agg #[.slice none 0 0, .slice none 0 0, .slice none 0 0]) nilM := ⟨⟨_, _, _, rfl, Recs.nil _, Recs.nil _, Recs.nil _⟩⟩
theorem is_tw {w : World} {g0 g1 g2 : Nat} (h0 : w.heap[g0]? = some (.cells #[.int .i64 (-4294967296), .int .i64 (-4294967296), .int .i64 0, .int .i64 4294967296, .int .i64 (-4294967296), .int .i64 0, .int .i64 0, .int .i64 4294967296, .int .i64 0] 23)) (h1 : w.heap[g1]? = some (.cells #[.int .i64 0, .int .i64 1, .int .i64 2, .int .i64 0, .int .i64 1, .int .i64 2, .int .i64 0, .int .i64 1, .int .i64 5] 46)) (h2 : w.heap[g2]? = some (.cells #[.int .i64 0, .int .i64 0, .int .i64 4294967296, .int .i64 4294967296] 39)) : IsMesh w (.agg #[.slice (some ⟨g0, 0, none⟩) 3 3, .slice (some ⟨g1, 0, none⟩) 3 3, .slice (some ⟨g2, 0, none⟩) 1 1]) twM :=
  ⟨⟨_, _, _, rfl, recs_heap len3 _ w g0 twL _ h0 rfl (by unfold maxLen; decide), recs_heap len3 _ w g1 twT _ h1 rfl (by unfold maxLen; decide), recs_heap len4 _ w g2 twB _ h2 rfl (by unfold maxLen; decide)⟩⟩
theorem e_sc1 : scanF twM rA 0 = ⟨21474836480, 0, 1073741824, 2147483648⟩ := by kernel_rfl
theorem c_sc1 (v : Value) (w : World) (hv : IsMesh w v twM) : Calls Try.prog 14 #[v, .agg #[.int .i64 0, .int .i64 0, .int .i64 (-21474836480), .int .i64 0, .int .i64 0, .int .i64 4294967296], .int .i64 0] w (VTo (.agg #[.int .i64 21474836480, .int .i64 0, .int .i64 1073741824, .int .i64 2147483648]) w) := by
  have h := scan_any v twM w hv ok_tw (by decide) rA okA 0
  rw [e_sc1] at h
  exact h
theorem e_sc2 : scanF twM rA 21474836481 = ⟨30064771072, 3, 0, 0⟩ := by kernel_rfl
theorem c_sc2 (v : Value) (w : World) (hv : IsMesh w v twM) : Calls Try.prog 14 #[v, .agg #[.int .i64 0, .int .i64 0, .int .i64 (-21474836480), .int .i64 0, .int .i64 0, .int .i64 4294967296], .int .i64 21474836481] w (VTo (.agg #[.int .i64 30064771072, .int .i64 3, .int .i64 0, .int .i64 0]) w) := by
  have h := scan_any v twM w hv ok_tw (by decide) rA okA 21474836481
  rw [e_sc2] at h
  exact h
theorem e_sc3 : scanF nilM rA 0 = ⟨0, -1, 0, 0⟩ := by kernel_rfl
theorem c_sc3 (w : World) : Calls Try.prog 14 #[.agg #[.slice none 0 0, .slice none 0 0, .slice none 0 0], .agg #[.int .i64 0, .int .i64 0, .int .i64 (-21474836480), .int .i64 0, .int .i64 0, .int .i64 4294967296], .int .i64 0] w (VTo (.agg #[.int .i64 0, .int .i64 (-1), .int .i64 0, .int .i64 0]) w) := by
  have h := scan_any _ nilM w (is_nil w) ok_nilM (by decide) rA okA 0
  rw [e_sc3] at h
  exact h
theorem e_sh2 : shapeF twM (2) rA 0 = none := by kernel_rfl
theorem c_sh2 (v : Value) (w : World) (hv : IsMesh w v twM) : Calls Try.prog 15 #[v, .int .i64 2, .agg #[.int .i64 0, .int .i64 0, .int .i64 (-21474836480), .int .i64 0, .int .i64 0, .int .i64 4294967296], .int .i64 0] w (VTo (.tuple #[.agg #[.int .i64 0, .int .i64 (-1), .int .i64 0, .int .i64 0], .bool false]) w) := by
  have h := shape_any v twM w hv ok_tw (by decide) (2) (in0 _ (by decide) (by decide)) rA okA 0
  rw [e_sh2] at h
  exact h
theorem e_sh4 : shapeF twM (4) rA 0 = none := by kernel_rfl
theorem c_sh4 (v : Value) (w : World) (hv : IsMesh w v twM) : Calls Try.prog 15 #[v, .int .i64 4, .agg #[.int .i64 0, .int .i64 0, .int .i64 (-21474836480), .int .i64 0, .int .i64 0, .int .i64 4294967296], .int .i64 0] w (VTo (.tuple #[.agg #[.int .i64 0, .int .i64 (-1), .int .i64 0, .int .i64 0], .bool false]) w) := by
  have h := shape_any v twM w hv ok_tw (by decide) (4) (in0 _ (by decide) (by decide)) rA okA 0
  rw [e_sh4] at h
  exact h
theorem e_shn : shapeF twM (-1) rA 0 = none := by kernel_rfl
theorem c_shn (v : Value) (w : World) (hv : IsMesh w v twM) : Calls Try.prog 15 #[v, .int .i64 (-1), .agg #[.int .i64 0, .int .i64 0, .int .i64 (-21474836480), .int .i64 0, .int .i64 0, .int .i64 4294967296], .int .i64 0] w (VTo (.tuple #[.agg #[.int .i64 0, .int .i64 (-1), .int .i64 0, .int .i64 0], .bool false]) w) := by
  have h := shape_any v twM w hv ok_tw (by decide) (-1) (in0 _ (by decide) (by decide)) rA okA 0
  rw [e_shn] at h
  exact h
theorem e_no1 : normalF twM ⟨21474836480, 0, 1073741824, 2147483648⟩ rA = ⟨0, 0, -4294967296⟩ := by kernel_rfl
theorem c_no1 (v : Value) (w : World) (hv : IsMesh w v twM) : Calls Try.prog 16 #[v, .agg #[.int .i64 21474836480, .int .i64 0, .int .i64 1073741824, .int .i64 2147483648], .agg #[.int .i64 0, .int .i64 0, .int .i64 (-21474836480), .int .i64 0, .int .i64 0, .int .i64 4294967296]] w (VTo (.agg #[.int .i64 0, .int .i64 0, .int .i64 (-4294967296)]) w) := by
  have h := normal_any v twM w hv ok_tw (by decide) ⟨21474836480, 0, 1073741824, 2147483648⟩ (in0 _ (by decide) (by decide)) (in0 _ (by decide) (by decide)) rA okA
  rw [e_no1] at h
  exact h
theorem e_no2 : normalF twM ⟨21474836480, 0, 1073741824, 2147483648⟩ r9 = ⟨0, 0, 4294967296⟩ := by kernel_rfl
theorem c_no2 (v : Value) (w : World) (hv : IsMesh w v twM) : Calls Try.prog 16 #[v, .agg #[.int .i64 21474836480, .int .i64 0, .int .i64 1073741824, .int .i64 2147483648], .agg #[.int .i64 0, .int .i64 0, .int .i64 0, .int .i64 0, .int .i64 0, .int .i64 (-4294967296)]] w (VTo (.agg #[.int .i64 0, .int .i64 0, .int .i64 4294967296]) w) := by
  have h := normal_any v twM w hv ok_tw (by decide) ⟨21474836480, 0, 1073741824, 2147483648⟩ (in0 _ (by decide) (by decide)) (in0 _ (by decide) (by decide)) r9 ok_r9
  rw [e_no2] at h
  exact h
theorem e_no3 : normalF twM ⟨0, 2, 0, 0⟩ rA = ⟨0, 0, 0⟩ := by kernel_rfl
theorem c_no3 (v : Value) (w : World) (hv : IsMesh w v twM) : Calls Try.prog 16 #[v, .agg #[.int .i64 0, .int .i64 2, .int .i64 0, .int .i64 0], .agg #[.int .i64 0, .int .i64 0, .int .i64 (-21474836480), .int .i64 0, .int .i64 0, .int .i64 4294967296]] w (VTo (.agg #[.int .i64 0, .int .i64 0, .int .i64 0]) w) := by
  have h := normal_any v twM w hv ok_tw (by decide) ⟨0, 2, 0, 0⟩ (in0 _ (by decide) (by decide)) (in0 _ (by decide) (by decide)) rA okA
  rw [e_no3] at h
  exact h
theorem e_no4 : normalF twM ⟨0, 9, 0, 0⟩ rA = ⟨0, 0, 0⟩ := by kernel_rfl
theorem c_no4 (v : Value) (w : World) (hv : IsMesh w v twM) : Calls Try.prog 16 #[v, .agg #[.int .i64 0, .int .i64 9, .int .i64 0, .int .i64 0], .agg #[.int .i64 0, .int .i64 0, .int .i64 (-21474836480), .int .i64 0, .int .i64 0, .int .i64 4294967296]] w (VTo (.agg #[.int .i64 0, .int .i64 0, .int .i64 0]) w) := by
  have h := normal_any v twM w hv ok_tw (by decide) ⟨0, 9, 0, 0⟩ (in0 _ (by decide) (by decide)) (in0 _ (by decide) (by decide)) rA okA
  rw [e_no4] at h
  exact h
theorem e_no5 : normalF twM ⟨0, -1, 0, 0⟩ rA = ⟨0, 0, 0⟩ := by kernel_rfl
theorem c_no5 (v : Value) (w : World) (hv : IsMesh w v twM) : Calls Try.prog 16 #[v, .agg #[.int .i64 0, .int .i64 (-1), .int .i64 0, .int .i64 0], .agg #[.int .i64 0, .int .i64 0, .int .i64 (-21474836480), .int .i64 0, .int .i64 0, .int .i64 4294967296]] w (VTo (.agg #[.int .i64 0, .int .i64 0, .int .i64 0]) w) := by
  have h := normal_any v twM w hv ok_tw (by decide) ⟨0, -1, 0, 0⟩ (in0 _ (by decide) (by decide)) (in0 _ (by decide) (by decide)) rA okA
  rw [e_no5] at h
  exact h

end Go.Proofs.Ytdmmbhcaejojeaa.HitN1
