/- The walk of the reference's Pixel. -/
import Derived.Test.YtnfbeldiideonaaLightP
import Derived.Test.YtnfbeldiideonaaLightR
import Derived.Deep.LoopGhost
set_option linter.unusedVariables false
set_option linter.unusedSimpArgs false
namespace Go.Proofs.Ytnfbeldiideonaa.LightI
open Go.RowKit Go.Sort FixM Base Num FixW FixV FixU FixT FixS FixO FixN FixK FixP Qb Qt VecW VecV VecU VecR LightM LightW LightQ LightR LightP

abbrev rowI (p q s : Int) (i : Int) : Array Value := #[.int .u8 (if 0 < i then p else 0), .int .u8 (if 1 < i then q else 0), .int .u8 (if 2 < i then s else 0), .int .u8 255]
structure Px (w wr : World) (a b c : Int) (row : Array Value) : Prop where
  h1 : wr.heap[w.heap.size + 1]? = some (.cells #[.int .u8 0, .int .u8 0, .int .u8 0, .int .u8 0] 24)
  h2 : wr.heap[w.heap.size + 1 + 1]? = some (.cells #[.int .i64 a, .int .i64 b, .int .i64 c] 2)
  h3 : wr.heap[w.heap.size + 1 + 1 + 1]? = some (.cells row 24)
  hb : Below w.heap.size w wr
theorem Px.set {w wr : World} {a b c : Int} {row : Array Value} (h : Px w wr a b c row) (g j : Nat) (v : Value) (hg : g = w.heap.size + 1 + 1 + 1) : Px w (wr.setCell ⟨g, j, none⟩ v) a b c (row.setIfInBounds j v) := by
  subst hg
  refine ⟨?_, ?_, ?_, h.hb.setCell (by simp; omega) _⟩
  · rw [heap_setCell_other _ _ _ _ (by simp)]; exact h.h1
  · rw [heap_setCell_other _ _ _ _ (by simp)]; exact h.h2
  · rw [heap_setCell_same _ _ _ _ _ _ h.h3]
theorem cell_row {W : World} {g : Nat} {T : TypeId} {row : Array Value} (h : W.heap[g]? = some (.cells row T)) (k : Nat) (v : Value) (hv : row[k]? = some v) : W.cell? ⟨g, k, none⟩ = some v := by
  rw [cell_of_row W g k _ _ _ h]; exact hv

set_option maxRecDepth 100000 in
set_option maxHeartbeats 4000000 in
theorem rpixel_any (a : V3) (n : Int) (ha : a.ok) (hn : In n) (w : World) : Calls Try.prog 15 #[vecV a, .int .i64 n] w (VTo (.agg (bytes4 a n)) w) := by
  obtain ⟨ax, ay, az⟩ := a
  obtain ⟨ha1, ha2, ha3⟩ := ha
  have hmx : In (max n 1) := by unfold In at *; omega
  have C1 := Lib.hid (fun w => rof_any (max n 1) hmx.1 hmx.2 w)
  have hc := in_ofF (max n 1)
  have hk1 : In 1095216660480 := by unfold In; omega
  have hk2 : In 2147483648 := by unfold In; omega
  have wx := wrap8 ax n
  have wy := wrap8 ay n
  have wz := wrap8 az n
  obtain ⟨b4, hb4⟩ : ∃ b, b = bytes4 ⟨ax, ay, az⟩ n := ⟨_, rfl⟩
  rw [← hb4]
  unfold bytes4 pixL byteL at hb4
  unfold pixL byteL at wx wy wz
  dsimp only at hb4
  obtain ⟨c, hcc⟩ : ∃ c, c = ofF (max n 1) := ⟨_, rfl⟩
  rw [← hcc] at C1 hc wx wy wz hb4
  have Dx := Lib.hid (fun W => rdiv_any ax c ha1.1 ha1.2 hc.1 hc.2 W)
  have i1 := in_div ax c
  obtain ⟨dx, ex⟩ : ∃ d, d = divF ax c := ⟨_, rfl⟩
  rw [← ex] at Dx i1 wx hb4
  have Kx := Lib.hid (fun W => rclamp_any dx i1 W)
  have i2 := in_clampL dx
  obtain ⟨kx, fx⟩ : ∃ d, d = clampL dx := ⟨_, rfl⟩
  rw [← fx] at Kx i2 wx hb4
  have Mx := Lib.hid (fun W => rmul_any kx 1095216660480 i2.1 i2.2 hk1.1 hk1.2 W)
  have i3 := in_mul kx 1095216660480
  obtain ⟨mx, gx⟩ : ∃ d, d = mulF kx 1095216660480 := ⟨_, rfl⟩
  rw [← gx] at Mx i3 wx hb4
  have Ax := Lib.hid (fun W => radd_any mx 2147483648 i3.1 i3.2 hk2.1 hk2.2 W)
  have i4 := in_add mx 2147483648
  obtain ⟨sx, hx⟩ : ∃ d, d = addF mx 2147483648 := ⟨_, rfl⟩
  rw [← hx] at Ax i4 wx hb4
  have Fx := Lib.hid (fun W => rfloor_any sx i4.1 i4.2 W)
  obtain ⟨px, jx⟩ : ∃ d, d = floorF sx := ⟨_, rfl⟩
  rw [← jx] at Fx wx hb4
  clear i1 i2 i3 i4 ex fx gx hx jx
  have Dy := Lib.hid (fun W => rdiv_any ay c ha2.1 ha2.2 hc.1 hc.2 W)
  have i1 := in_div ay c
  obtain ⟨dy, ey⟩ : ∃ d, d = divF ay c := ⟨_, rfl⟩
  rw [← ey] at Dy i1 wy hb4
  have Ky := Lib.hid (fun W => rclamp_any dy i1 W)
  have i2 := in_clampL dy
  obtain ⟨ky, fy⟩ : ∃ d, d = clampL dy := ⟨_, rfl⟩
  rw [← fy] at Ky i2 wy hb4
  have My := Lib.hid (fun W => rmul_any ky 1095216660480 i2.1 i2.2 hk1.1 hk1.2 W)
  have i3 := in_mul ky 1095216660480
  obtain ⟨my, gy⟩ : ∃ d, d = mulF ky 1095216660480 := ⟨_, rfl⟩
  rw [← gy] at My i3 wy hb4
  have Ay := Lib.hid (fun W => radd_any my 2147483648 i3.1 i3.2 hk2.1 hk2.2 W)
  have i4 := in_add my 2147483648
  obtain ⟨sy, hy⟩ : ∃ d, d = addF my 2147483648 := ⟨_, rfl⟩
  rw [← hy] at Ay i4 wy hb4
  have Fy := Lib.hid (fun W => rfloor_any sy i4.1 i4.2 W)
  obtain ⟨py, jy⟩ : ∃ d, d = floorF sy := ⟨_, rfl⟩
  rw [← jy] at Fy wy hb4
  clear i1 i2 i3 i4 ey fy gy hy jy
  have Dz := Lib.hid (fun W => rdiv_any az c ha3.1 ha3.2 hc.1 hc.2 W)
  have i1 := in_div az c
  obtain ⟨dz, ez⟩ : ∃ d, d = divF az c := ⟨_, rfl⟩
  rw [← ez] at Dz i1 wz hb4
  have Kz := Lib.hid (fun W => rclamp_any dz i1 W)
  have i2 := in_clampL dz
  obtain ⟨kz, fz⟩ : ∃ d, d = clampL dz := ⟨_, rfl⟩
  rw [← fz] at Kz i2 wz hb4
  have Mz := Lib.hid (fun W => rmul_any kz 1095216660480 i2.1 i2.2 hk1.1 hk1.2 W)
  have i3 := in_mul kz 1095216660480
  obtain ⟨mz, gz⟩ : ∃ d, d = mulF kz 1095216660480 := ⟨_, rfl⟩
  rw [← gz] at Mz i3 wz hb4
  have Az := Lib.hid (fun W => radd_any mz 2147483648 i3.1 i3.2 hk2.1 hk2.2 W)
  have i4 := in_add mz 2147483648
  obtain ⟨sz, hz⟩ : ∃ d, d = addF mz 2147483648 := ⟨_, rfl⟩
  rw [← hz] at Az i4 wz hb4
  have Fz := Lib.hid (fun W => rfloor_any sz i4.1 i4.2 W)
  obtain ⟨pz, jz⟩ : ∃ d, d = floorF sz := ⟨_, rfl⟩
  rw [← jz] at Fz wz hb4
  clear i1 i2 i3 i4 ez fz gz hz jz
  clear hcc hmx hc hk1 hk2 ha1 ha2 ha3 hn
  have HB4 := Lib.hid hb4
  clear hb4
  obtain ⟨W, hW⟩ : ∃ W, W = (((w.alloc (box3 ⟨ax, ay, az⟩)).alloc (.cells #[.int .u8 0, .int .u8 0, .int .u8 0, .int .u8 0] 24)).alloc (.cells #[.int .i64 ax, .int .i64 ay, .int .i64 az] 2)).alloc (.cells #[.int .u8 0, .int .u8 0, .int .u8 0, .int .u8 255] 24) := ⟨_, rfl⟩
  have H0 := Lib.hid (show Px w W ax ay az (rowI px py pz 0) from by
    rw [hW]
    refine ⟨?_, ?_, ?_, (alloc3_below _ _ _ _).alloc (by simp; omega) _⟩
    · rw [heap_alloc_old _ _ (by simp)]; exact alloc3_1 _ _ _ _
    · rw [heap_alloc_old _ _ (by simp)]; exact alloc3_2 _ _ _ _
    · have := heap_alloc_new (((w.alloc (box3 ⟨ax, ay, az⟩)).alloc (.cells #[.int .u8 0, .int .u8 0, .int .u8 0, .int .u8 0] 24)).alloc (.cells #[.int .i64 ax, .int .i64 ay, .int .i64 az] 2)) (.cells #[.int .u8 0, .int .u8 0, .int .u8 0, .int .u8 255] 24)
      have h : ((((w.alloc (box3 ⟨ax, ay, az⟩)).alloc (.cells #[.int .u8 0, .int .u8 0, .int .u8 0, .int .u8 0] 24)).alloc (.cells #[.int .i64 ax, .int .i64 ay, .int .i64 az] 2)).alloc (.cells #[.int .u8 0, .int .u8 0, .int .u8 0, .int .u8 255] 24)).heap[w.heap.size + 1 + 1 + 1]? = some (.cells #[.int .u8 0, .int .u8 0, .int .u8 0, .int .u8 255] 24) := by simpa using this
      exact h)
  have HWW := Lib.hid hW
  clear hW
  go_enter Try.func15, Try.ntmps15
  go_wp2_with fail
  refine (C1.out _).mono ?_
  rintro e w1 ⟨rfl, rfl⟩
  go_wp2_with fail
  rw [← HWW.out]
  clear HWW C1
  go_loopg [8] 3 (fun r n8 wr => ∃ i : Int, 0 ≤ i ∧ i + (r : Int) = 3 ∧ n8 = .int .i64 i ∧ Px w wr ax ay az (rowI px py pz i))
  case atStart => exact ⟨0, by omega, by omega, rfl, H0.out⟩
  case round =>
    obtain ⟨i, hi0, hir, rfl, hpx⟩ := hrel
    have HP := Lib.hid hpx
    clear hpx H0
    rcases (show i = 0 ∨ i = 1 ∨ i = 2 ∨ i = 3 by omega) with rfl | rfl | rfl | rfl
    · have q0 := cell_row HP.out.h2 0 (.int .i64 ax) rfl
      have q1 := cell_row HP.out.h3 0 _ rfl
      have q2 := frozen_of_row _ _ 0 _ _ HP.out.h3
      go_wp2_with fail
      refine (Dx.out _).mono ?_
      rintro e w1 ⟨rfl, rfl⟩
      go_wp2_with fail
      refine (Kx.out _).mono ?_
      rintro e w1 ⟨rfl, rfl⟩
      go_wp2_with fail
      refine (Mx.out _).mono ?_
      rintro e w1 ⟨rfl, rfl⟩
      go_wp2_with fail
      refine (Ax.out _).mono ?_
      rintro e w1 ⟨rfl, rfl⟩
      go_wp2_with fail
      refine (Fx.out _).mono ?_
      rintro e w1 ⟨rfl, rfl⟩
      go_wp2_with fail
      go_roundg 2
      case measure => omega
      case rel => exact ⟨1, by omega, by omega, rfl, HP.out.set _ 0 (.int .u8 px) rfl⟩
    · have q0 := cell_row HP.out.h2 1 (.int .i64 ay) rfl
      have q1 := cell_row HP.out.h3 1 _ rfl
      have q2 := frozen_of_row _ _ 1 _ _ HP.out.h3
      go_wp2_with fail
      refine (Dy.out _).mono ?_
      rintro e w1 ⟨rfl, rfl⟩
      go_wp2_with fail
      refine (Ky.out _).mono ?_
      rintro e w1 ⟨rfl, rfl⟩
      go_wp2_with fail
      refine (My.out _).mono ?_
      rintro e w1 ⟨rfl, rfl⟩
      go_wp2_with fail
      refine (Ay.out _).mono ?_
      rintro e w1 ⟨rfl, rfl⟩
      go_wp2_with fail
      refine (Fy.out _).mono ?_
      rintro e w1 ⟨rfl, rfl⟩
      go_wp2_with fail
      go_roundg 1
      case measure => omega
      case rel => exact ⟨2, by omega, by omega, rfl, HP.out.set _ 1 (.int .u8 py) rfl⟩
    · have q0 := cell_row HP.out.h2 2 (.int .i64 az) rfl
      have q1 := cell_row HP.out.h3 2 _ rfl
      have q2 := frozen_of_row _ _ 2 _ _ HP.out.h3
      go_wp2_with fail
      refine (Dz.out _).mono ?_
      rintro e w1 ⟨rfl, rfl⟩
      go_wp2_with fail
      refine (Kz.out _).mono ?_
      rintro e w1 ⟨rfl, rfl⟩
      go_wp2_with fail
      refine (Mz.out _).mono ?_
      rintro e w1 ⟨rfl, rfl⟩
      go_wp2_with fail
      refine (Az.out _).mono ?_
      rintro e w1 ⟨rfl, rfl⟩
      go_wp2_with fail
      refine (Fz.out _).mono ?_
      rintro e w1 ⟨rfl, rfl⟩
      go_wp2_with fail
      go_roundg 0
      case measure => omega
      case rel => exact ⟨3, by omega, by omega, rfl, HP.out.set _ 2 (.int .u8 pz) rfl⟩
    · have c0 := cell_row HP.out.h3 0 (.int .u8 px) rfl
      have c1 := cell_row HP.out.h3 1 (.int .u8 py) rfl
      have c2 := cell_row HP.out.h3 2 (.int .u8 pz) rfl
      have c3 := cell_row HP.out.h3 3 (.int .u8 255) rfl
      go_wp2_with (with_reducible refine store_b4 rfl (.tmp 4) (.tmp 39) rfl rfl (w.heap.size + 1) px py pz 255 rfl rfl _ _ _ _ HP.out.h1 ?_)
      have H4 := Lib.hid (setRow_heap wr (w.heap.size + 1) _ #[.int .u8 px, .int .u8 py, .int .u8 pz, .int .u8 255] _ _ HP.out.h1)
      have HB := Lib.hid (below_setRow HP.out.hb (show w.heap.size ≤ w.heap.size + 1 by omega) #[.int .u8 px, .int .u8 py, .int .u8 pz, .int .u8 255])
      generalize wr.setRow (w.heap.size + 1) _ = w3 at *
      refine bodyPost_ret (results_cell_row rfl _ _ (w.heap.size + 1) 24 _ _ _ rfl H4.out Try.underlying24 rfl b4_size) rfl ?_
      exact ⟨by rw [HB4.out], HB.out⟩
end Go.Proofs.Ytnfbeldiideonaa.LightI
