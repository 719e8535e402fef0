/- The walks of law12's small and awake. -/
import Derived.Test.YtdmmjmdnljhooaaMeshT
import Derived.Test.YtdmmjmdnljhooaaMeshG
import Derived.Test.YtdmmjmdnljhooaaLow
set_option linter.unusedVariables false
set_option linter.unusedSimpArgs false
namespace Go.Proofs.Ytdmmjmdnljhooaa.MeshU
open Go.RowKit Go.Sort FixM Base Num FixW Qb Qt Qa VecW VecV VecU LightQ LightC MeshM Rec MeshA MeshB MeshC MeshD MeshE MeshP MeshEq MeshL MeshS MeshT MeshF MeshG Low
def sPs : List V3 := [⟨0, 0, 0⟩, ⟨4294967296, 0, 0⟩, ⟨0, 8589934592, 0⟩]
def sTs (k : Int) : List V3 := [⟨0, 1, k⟩]
def sBs : List B4 := [⟨⟨4294967296, 4294967296, 4294967296⟩, 4294967296⟩]
def smallM (k : Int) : Msh := ⟨sPs, sTs k, sBs⟩

set_option maxRecDepth 100000 in
set_option maxHeartbeats 4000000 in
theorem small_any (k : Int) (w : World) : Calls Try.prog 9 #[.int .i64 k] w (MTo (smallM k) w) := by
  have C1 := Lib.hid of_100
  have C2 := Lib.hid of_020
  have C3 := Lib.hid of_111
  have HB := Lib.hid (ext_alloc w (.cells #[nil, nil, nil] 30))
  have HR := Lib.hid (heap_alloc_new w (.cells #[nil, nil, nil] 30))
  go_enter Try.func9, Try.ntmps9
  go_wp2_with fail
  refine (C1.out _).mono ?_
  rintro e w1 ⟨rfl, hb1⟩
  have HB1 := Lib.hid (HB.out.trans (hb1.mono HB.out.size))
  have HR1 := Lib.hid (vec_step HR.out hb1)
  clear hb1 HB HR
  go_wp2_with fail
  refine (C2.out _).mono ?_
  rintro e w2 ⟨rfl, hb2⟩
  have HB2 := Lib.hid (HB1.out.trans (hb2.mono HB1.out.size))
  have HR2 := Lib.hid (vec_step HR1.out hb2)
  clear hb2 HB1 HR1
  have HLT := Lib.hid (lt_of_heap HR2.out)
  go_wp2_with fail
  have P0 := recs_row len3 23 w2 sPs #[.int .i64 0, .int .i64 0, .int .i64 0, .int .i64 4294967296, .int .i64 0, .int .i64 0, .int .i64 0, .int .i64 8589934592, .int .i64 0] rfl (by decide)
  have T0 := recs_row len3 31 (w2.alloc (.cells #[.int .i64 0, .int .i64 0, .int .i64 0, .int .i64 4294967296, .int .i64 0, .int .i64 0, .int .i64 0, .int .i64 8589934592, .int .i64 0] 23)) (sTs k) #[.int .i64 0, .int .i64 1, .int .i64 k] rfl (show 1 ≤ maxLen by decide)
  rw [MeshQ.al_size] at T0
  have hx := alloc2_below w2 (.cells #[.int .i64 0, .int .i64 0, .int .i64 0, .int .i64 4294967296, .int .i64 0, .int .i64 0, .int .i64 0, .int .i64 8589934592, .int .i64 0] 23) (.cells #[.int .i64 0, .int .i64 1, .int .i64 k] 31)
  have P1 := Lib.hid (P0.below (ext_alloc _ (.cells #[.int .i64 0, .int .i64 1, .int .i64 k] 31)) (Nat.le_refl _))
  have T1 := Lib.hid T0
  have HB3 := Lib.hid (HB2.out.trans (hx.mono HB2.out.size))
  have HR3 := Lib.hid (vec_step HR2.out hx)
  clear P0 T0 hx HB2 HR2
  obtain ⟨W3, hW3⟩ : ∃ W, W = (w2.alloc (.cells #[.int .i64 0, .int .i64 0, .int .i64 0, .int .i64 4294967296, .int .i64 0, .int .i64 0, .int .i64 0, .int .i64 8589934592, .int .i64 0] 23)).alloc (.cells #[.int .i64 0, .int .i64 1, .int .i64 k] 31) := ⟨_, rfl⟩
  rw [← hW3] at P1 T1 HB3 HR3 ⊢
  clear hW3
  refine (C3.out _).mono ?_
  rintro e w4 ⟨rfl, hb4⟩
  have HB4 := Lib.hid (HB3.out.trans (hb4.mono HB3.out.size))
  have HR4 := Lib.hid (vec_step HR3.out hb4)
  have P4 := Lib.hid (P1.out.below hb4 (Nat.le_refl _))
  have T4 := Lib.hid (T1.out.below hb4 (Nat.le_refl _))
  clear hb4 HB3 HR3 P1 T1
  have HLT4 := Lib.hid (lt_of_heap HR4.out)
  have B0 := Lib.hid (recs_row len4 26 w4 sBs #[.int .i64 4294967296, .int .i64 4294967296, .int .i64 4294967296, .int .i64 4294967296] rfl (by decide))
  have hx := ext_alloc w4 (.cells #[.int .i64 4294967296, .int .i64 4294967296, .int .i64 4294967296, .int .i64 4294967296] 26)
  have HB5 := Lib.hid (HB4.out.trans (hx.mono HB4.out.size))
  have HR5 := Lib.hid (vec_step HR4.out hx)
  have P5 := Lib.hid (P4.out.below hx (Nat.le_refl _))
  have T5 := Lib.hid (T4.out.below hx (Nat.le_refl _))
  clear hx HB4 HR4 P4 T4
  go_wp2_with (with_reducible refine store_mesh rfl (.tmp 2) (.tmp 13) rfl rfl w.heap.size (.slice (some ⟨w2.heap.size, 0, none⟩) 3 3) (.slice (some ⟨w2.heap.size + 1, 0, none⟩) 1 1) (.slice (some ⟨w4.heap.size, 0, none⟩) 1 1) rfl rfl _ HR5.out rfl ⟨rfl, rfl, rfl⟩ ?_)
  refine bodyPost_ret (results_cell_row rfl _ _ w.heap.size 30 _ _ _ rfl (setRow_heap _ _ _ _ _ _ HR5.out) Try.underlying30 rfl mesh_size) rfl ?_
  have hk := fun cs => (Keeps.refl (fun j => j = w.heap.size) (w4.alloc (.cells #[.int .i64 4294967296, .int .i64 4294967296, .int .i64 4294967296, .int .i64 4294967296] 26))).setRow w.heap.size cs (.inl rfl)
  have hlt : w.heap.size < w2.heap.size := HLT.out
  have hlt4 : w.heap.size < w4.heap.size := HLT4.out
  exact ⟨_, rfl, ⟨⟨_, _, _, rfl, P5.out.frame (hk _) (fun b hb e => by simp only [Value.ownBlock, Option.some.injEq] at hb; omega), T5.out.frame (hk _) (fun b hb e => by simp only [Value.ownBlock, Option.some.injEq] at hb; omega), B0.out.frame (hk _) (fun b hb e => by simp only [Value.ownBlock, Option.some.injEq] at hb; omega)⟩⟩, below_setRow HB5.out (Nat.le_refl _) _⟩

def nilM : Msh := ⟨[], [], []⟩
def ballM (l : List B4) : Msh := ⟨[], [], l⟩
theorem nil_mesh (w : World) : IsMesh w (.agg #[nil, nil, nil]) nilM := ⟨⟨nil, nil, nil, rfl, Recs.nil w, Recs.nil w, Recs.nil w⟩⟩
theorem ball_mesh {w : World} {v : Value} {l : List B4} (h : Recs 4 enc4 w v l) : IsMesh w (.agg #[nil, nil, v]) (ballM l) := ⟨⟨nil, nil, v, rfl, Recs.nil w, Recs.nil w, h⟩⟩
theorem bytes_nil (w : World) : Calls Try.prog 6 #[.agg #[nil, nil, nil]] w (fun e w' => ∃ v, e = .returned (.tuple #[v, .int .i64 0]) ∧ Nums .u8 256 w' v (List.replicate 12 0) ∧ Below w.heap.size w w') :=
  (bytes_any _ nilM w (nil_mesh w)).mono fun e w' h => by
    obtain ⟨v, rfl, ho, hb⟩ := h
    exact ⟨v, rfl, ho.nums, hb⟩
theorem check_s2 (v : Value) (w : World) (h : IsMesh w v (smallM 2)) : Calls Try.prog 7 #[v] w (VTo (.int .i64 0) w) := check_any v (smallM 2) w h
theorem check_s3 (v : Value) (w : World) (h : IsMesh w v (smallM 3)) : Calls Try.prog 7 #[v] w (VTo (.int .i64 14) w) := check_any v (smallM 3) w h
theorem check_b0 (v : Value) (w : World) (h : IsMesh w v (ballM [⟨⟨0, 0, 0⟩, 0⟩])) : Calls Try.prog 7 #[v] w (VTo (.int .i64 14) w) := check_any v _ w h
theorem count_s2 (v : Value) (w : World) (h : IsMesh w v (smallM 2)) : Calls Try.prog 20 #[v] w (VTo (.int .i64 2) w) := count_any v (smallM 2) w h (by decide)
theorem ok_s2 : (smallM 2).ok := by
  refine ⟨?_, ?_, ?_⟩
  · intro p hp
    simp only [smallM, sPs, List.mem_cons, List.not_mem_nil, or_false] at hp
    rcases hp with rfl | rfl | rfl <;> (simp only [V3.ok, In]; decide)
  · intro p hp
    simp only [smallM, sTs, List.mem_cons, List.not_mem_nil, or_false] at hp
    rcases hp with rfl
    simp only [V3.ok, In]
    decide
  · intro p hp
    simp only [smallM, sBs, List.mem_cons, List.not_mem_nil, or_false] at hp
    rcases hp with rfl
    simp only [V3.ok, In]
    decide
theorem box_s20 (v : Value) (w : World) (h : IsMesh w v (smallM 2)) : Calls Try.prog 8 #[v, .int .i64 0] w (VTo (.agg #[.int .i64 0, .int .i64 0, .int .i64 0, .int .i64 4294967296, .int .i64 8589934592, .int .i64 0]) w) := box_any v (smallM 2) w h ok_s2 (by decide) 0 (by simp only [In]; decide)
theorem box_s21 (v : Value) (w : World) (h : IsMesh w v (smallM 2)) : Calls Try.prog 8 #[v, .int .i64 1] w (VTo (.agg #[.int .i64 0, .int .i64 0, .int .i64 0, .int .i64 8589934592, .int .i64 8589934592, .int .i64 8589934592]) w) := box_any v (smallM 2) w h ok_s2 (by decide) 1 (by simp only [In]; decide)
theorem same_box (a b c d e f : Int) (w : World) : (Op.equalIn 10000 39 (.agg #[.int .i64 a, .int .i64 b, .int .i64 c, .int .i64 d, .int .i64 e, .int .i64 f]) (.agg #[.int .i64 a, .int .i64 b, .int .i64 c, .int .i64 d, .int .i64 e, .int .i64 f])).run Try.prog w = .ok true w := by
  have := eq_box ⟨⟨a, b, c⟩, ⟨d, e, f⟩⟩ ⟨⟨a, b, c⟩, ⟨d, e, f⟩⟩ w
  simpa using this
theorem nums_row (w : World) (n : Nat) (h : n ≤ maxLen) (hn : 0 < n) : Nums .u8 256 (w.alloc (.cells (Array.replicate n (.int .u8 0)) 5)) (.slice (some ⟨w.heap.size, 0, none⟩) n n) (List.replicate n 0) where
  shape := ⟨_, n, by rw [List.length_replicate], by rw [List.length_replicate]; exact Nat.le_refl _, h, fun e => by simp at e⟩
  bound := fun x hx => by rw [List.eq_of_mem_replicate hx]; decide
  cells := fun _ => ⟨w.heap.size, 0, n, by rw [List.length_replicate], by simp, fun i hi => by
    rw [List.length_replicate] at hi
    rw [cell_of_row _ w.heap.size _ _ 5 (0, 0) (heap_alloc_new _ _), Nat.zero_add]
    simp [hi]⟩
theorem make12 (w : World) : (Instr.makeSlice 33 (.int .i64 12) (.int .i64 12)).run Try.prog w = .ok (.slice (some ⟨w.heap.size, 0, none⟩) 12 12) (w.alloc (.cells (Array.replicate 12 (.int .u8 0)) 5)) := by kernel_rfl
theorem make_b (w : World) : (Instr.makeSlice 27 (.int .i64 1) (.int .i64 1)).run Try.prog w = .ok (.slice (some ⟨w.heap.size, 0, none⟩) 1 1) (w.alloc (.cells #[.int .i64 0, .int .i64 0, .int .i64 0, .int .i64 0] 26)) := by kernel_rfl
def AwTo (w : World) (e : Ending) (w' : World) : Prop := e = .returned (.bool true) ∧ Below w.heap.size w w'

set_option maxRecDepth 100000 in
set_option maxHeartbeats 4000000 in
theorem awake_any (w : World) : Calls Try.prog 12 #[] w (AwTo w) := by
  have SM := Lib.hid small_any
  have BY := Lib.hid bytes_nil
  have CK2 := Lib.hid check_s2
  have CK3 := Lib.hid check_s3
  have CKB := Lib.hid check_b0
  have CN2 := Lib.hid count_s2
  have BX0 := Lib.hid box_s20
  have BX1 := Lib.hid box_s21
  have O120 := Lib.hid of_120
  have O222 := Lib.hid of_222
  have SB := same_box
  have mk12 := make12
  have mkb := make_b
  go_enter Try.func12, Try.ntmps12
  go_wp2_with fail
  refine (SM.out _ _).mono ?_
  rintro e w1 ⟨v1, rfl, hm1, hb1⟩
  obtain ⟨a0, c0, a1, c1, a2, c2, rfl, _⟩ := hm1.open_
  have HM1 := Lib.hid hm1
  have HB1 := Lib.hid hb1
  clear hm1 hb1
  go_wp2_with fail
  have HX := Lib.hid (ext_alloc w1 (.cells #[.slice a0 (smallM 2).ps.length c0, .slice a1 (smallM 2).ts.length c1, .slice a2 (smallM 2).bs.length c2] 30))
  have hr := heap_alloc_new w1 (.cells #[.slice a0 (smallM 2).ps.length c0, .slice a1 (smallM 2).ts.length c1, .slice a2 (smallM 2).bs.length c2] 30)
  obtain ⟨W, hW⟩ : ∃ W, W = w1.alloc (.cells #[.slice a0 (smallM 2).ps.length c0, .slice a1 (smallM 2).ts.length c1, .slice a2 (smallM 2).bs.length c2] 30) := ⟨_, rfl⟩
  have HM := HM1.out.below HX.out
  have HB := HB1.out.trans (HX.out.mono HB1.out.size)
  rw [← hW] at HM HB hr ⊢
  clear hW HX HM1 HB1
  have HM0 := Lib.hid HM
  have HB0 := Lib.hid HB
  have HR0 := Lib.hid hr
  clear HM HB hr
  generalize w1.heap.size = g at HR0 ⊢
  refine (BY.out _).mono ?_
  rintro e x1 ⟨vb, rfl, own, hb⟩
  have HM1 := Lib.hid (HM0.out.below hb)
  have HB1 := Lib.hid (HB0.out.trans (hb.mono HB0.out.size))
  have HR1 := Lib.hid (vec_step HR0.out hb)
  have HO1 := Lib.hid own
  clear hb HM0 HB0 HR0 own
  have k0 := cell_row HR1.out 0 (.slice a0 _ c0) rfl
  have k1 := cell_row HR1.out 1 (.slice a1 _ c1) rfl
  have k2 := cell_row HR1.out 2 (.slice a2 _ c2) rfl
  go_wp2_with fail
  refine (CK2.out _ _ HM1.out).mono ?_
  rintro e x2 ⟨rfl, hb⟩
  have HM2 := Lib.hid (HM1.out.below hb)
  have HB2 := Lib.hid (HB1.out.trans (hb.mono HB1.out.size))
  have HR2 := Lib.hid (vec_step HR1.out hb)
  have HO2 := Lib.hid (HO1.out.below hb (Nat.le_refl _))
  clear hb HM1 HB1 HR1 HO1 k0 k1 k2
  have k0 := cell_row HR2.out 0 (.slice a0 _ c0) rfl
  have k1 := cell_row HR2.out 1 (.slice a1 _ c1) rfl
  have k2 := cell_row HR2.out 2 (.slice a2 _ c2) rfl
  go_wp2_with fail
  refine (CN2.out _ _ HM2.out).mono ?_
  rintro e x3 ⟨rfl, hb⟩
  have HM3 := Lib.hid (HM2.out.below hb)
  have HB3 := Lib.hid (HB2.out.trans (hb.mono HB2.out.size))
  have HR3 := Lib.hid (vec_step HR2.out hb)
  have HO3 := Lib.hid (HO2.out.below hb (Nat.le_refl _))
  clear hb HM2 HB2 HR2 HO2 k0 k1 k2
  have k0 := cell_row HR3.out 0 (.slice a0 _ c0) rfl
  have k1 := cell_row HR3.out 1 (.slice a1 _ c1) rfl
  have k2 := cell_row HR3.out 2 (.slice a2 _ c2) rfl
  go_wp2_with fail
  refine (BX0.out _ _ HM3.out).mono ?_
  rintro e x4 ⟨rfl, hb⟩
  have HM4 := Lib.hid (HM3.out.below hb)
  have HB4 := Lib.hid (HB3.out.trans (hb.mono HB3.out.size))
  have HR4 := Lib.hid (vec_step HR3.out hb)
  have HO4 := Lib.hid (HO3.out.below hb (Nat.le_refl _))
  clear hb HM3 HB3 HR3 HO3 k0 k1 k2
  have k0 := cell_row HR4.out 0 (.slice a0 _ c0) rfl
  have k1 := cell_row HR4.out 1 (.slice a1 _ c1) rfl
  have k2 := cell_row HR4.out 2 (.slice a2 _ c2) rfl
  go_wp2_with fail
  refine (O120.out _).mono ?_
  rintro e x5 ⟨rfl, hb⟩
  have HM5 := Lib.hid (HM4.out.below hb)
  have HB5 := Lib.hid (HB4.out.trans (hb.mono HB4.out.size))
  have HR5 := Lib.hid (vec_step HR4.out hb)
  have HO5 := Lib.hid (HO4.out.below hb (Nat.le_refl _))
  clear hb HM4 HB4 HR4 HO4 k0 k1 k2
  have k0 := cell_row HR5.out 0 (.slice a0 _ c0) rfl
  have k1 := cell_row HR5.out 1 (.slice a1 _ c1) rfl
  have k2 := cell_row HR5.out 2 (.slice a2 _ c2) rfl
  go_wp2_with fail
  refine (BX1.out _ _ HM5.out).mono ?_
  rintro e x6 ⟨rfl, hb⟩
  have HM6 := Lib.hid (HM5.out.below hb)
  have HB6 := Lib.hid (HB5.out.trans (hb.mono HB5.out.size))
  have HR6 := Lib.hid (vec_step HR5.out hb)
  have HO6 := Lib.hid (HO5.out.below hb (Nat.le_refl _))
  clear hb HM5 HB5 HR5 HO5 k0 k1 k2
  have k0 := cell_row HR6.out 0 (.slice a0 _ c0) rfl
  have k1 := cell_row HR6.out 1 (.slice a1 _ c1) rfl
  have k2 := cell_row HR6.out 2 (.slice a2 _ c2) rfl
  go_wp2_with fail
  refine (O222.out _).mono ?_
  rintro e x7 ⟨rfl, hb⟩
  have HM7 := Lib.hid (HM6.out.below hb)
  have HB7 := Lib.hid (HB6.out.trans (hb.mono HB6.out.size))
  have HR7 := Lib.hid (vec_step HR6.out hb)
  have HO7 := Lib.hid (HO6.out.below hb (Nat.le_refl _))
  clear hb HM6 HB6 HR6 HO6 k0 k1 k2
  have k0 := cell_row HR7.out 0 (.slice a0 _ c0) rfl
  have k1 := cell_row HR7.out 1 (.slice a1 _ c1) rfl
  have k2 := cell_row HR7.out 2 (.slice a2 _ c2) rfl
  go_wp2_with fail
  have HX := Lib.hid (ext_alloc x7 (.cells (Array.replicate 12 (.int .u8 0)) 5))
  have HN := Lib.hid (nums_row x7 12 (by unfold maxLen; omega) (by omega))
  have HO8 := Lib.hid (HO7.out.below HX.out (Nat.le_refl _))
  have HM8 := Lib.hid (HM7.out.below HX.out)
  have HB8 := Lib.hid (HB7.out.trans (HX.out.mono HB7.out.size))
  clear HO7 HM7 HB7 HR7 k0 k1 k2 HX
  have same := fun w h => by have := sameBytes_any vb (.slice (some ⟨x7.heap.size, 0, none⟩) 12 12) (List.replicate 12 0) (List.replicate 12 0) w h; simpa only [decide_true] using this
  refine (same _ HO8.out HN.out).mono ?_
  rintro e x8 ⟨rfl, rfl⟩
  clear same HO8 HN
  go_wp2_with fail
  refine (SM.out _ _).mono ?_
  rintro e x9 ⟨v9, rfl, hm9, hb9⟩
  have HM9 := Lib.hid hm9
  have HB9 := Lib.hid (HB8.out.trans (hb9.mono HB8.out.size))
  clear hm9 hb9 HM8 HB8
  go_wp2_with fail
  refine (CK3.out _ _ HM9.out).mono ?_
  rintro e x10 ⟨rfl, hb⟩
  have HB10 := Lib.hid (HB9.out.trans (hb.mono HB9.out.size))
  clear hb HM9 HB9
  go_wp2_with fail
  have R0 := recs_row len4 26 x10 [(⟨⟨0, 0, 0⟩, 0⟩ : B4)] #[.int .i64 0, .int .i64 0, .int .i64 0, .int .i64 0] rfl (by decide)
  have HX := Lib.hid (ext_alloc x10 (.cells #[.int .i64 0, .int .i64 0, .int .i64 0, .int .i64 0] 26))
  refine (CKB.out _ _ (ball_mesh R0)).mono ?_
  clear R0
  rintro e x11 ⟨rfl, hb⟩
  have HB11 := Lib.hid ((HB10.out.trans (HX.out.mono HB10.out.size)).trans (hb.mono (Nat.le_trans HB10.out.size HX.out.size)))
  clear hb HX HB10
  go_wp2_with fail
  go_ret
  exact ⟨rfl, HB11.out⟩

end Go.Proofs.Ytdmmjmdnljhooaa.MeshU
