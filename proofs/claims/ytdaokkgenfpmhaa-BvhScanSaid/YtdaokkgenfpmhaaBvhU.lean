/- The walk of the sort of a node's shapes. -/
import Derived.Test.YtdaokkgenfpmhaaBvhT
import Derived.Laws.EntriesVeiled
set_option linter.unusedVariables false
set_option linter.unusedSimpArgs false
namespace Go.Proofs.Ytdaokkgenfpmhaa.BvhU
open Go Go.RowKit Go.Sort Go.Lib FixM Base Num FixW Qb Qt Qa Qf VecW VecV VecU LightQ LightC MeshM Rec MeshA MeshD MeshP HitM BvhM BvhA BvhB BvhS BvhT
/-- what a tree that is being built has in the world: its maker at gM, itself at gT, its shapes' boxes and order -/
structure MkAt (w : World) (gM gT : Nat) (vb vn : Value) (v0 v1 v2 : Value) (st mo dp : Int) (blk cap : Nat) (bs : List Bx) (l : List Nat) (base : Nat) : Prop where
  m : w.heap[gM]? = some (.cells #[.pointer (some ⟨gT, 0, none⟩), vb, .int .i64 st, .int .i64 mo] 75)
  t : w.heap[gT]? = some (.cells #[.bool true, v0, v1, v2, vn, .slice (some ⟨blk, 0, none⟩) l.length cap, .int .i64 dp] 35)
  b : Recs 6 encB w vb bs
  o : Own .i64 9223372036854775808 3 base w (.slice (some ⟨blk, 0, none⟩) l.length cap) l
  nM : gM ≠ blk
  nT : gT ≠ blk
  nb : vb.ownBlock ≠ some blk
theorem cap_of {k : IntKind} {N E base blk cap : Nat} {w : World} {l : List Nat} (h : Own k N E base w (.slice (some ⟨blk, 0, none⟩) l.length cap) l) : l.length ≤ cap ∧ cap ≤ 9223372036854775807 := by
  rcases h.row.2 with ⟨e, _⟩ | ⟨g, cp, cur, e, _, _, h1, h2, _⟩
  · simp at e
  · simp only [Value.slice.injEq] at e
    obtain ⟨-, -, rfl⟩ := e
    exact ⟨h1, h2⟩
set_option maxRecDepth 100000 in
set_option maxHeartbeats 16000000 in
theorem sort_any (w : World) (gM gT : Nat) (vb vn v0 v1 v2 : Value) (st mo dp : Int) (blk cap : Nat) (bs : List Bx) (l : List Nat) (base : Nat) (h : MkAt w gM gT vb vn v0 v1 v2 st mo dp blk cap bs l base) (ok : ∀ b ∈ bs, HitM.Bx.ok b) (hl : ∀ i ∈ l, i < bs.length) (hb : bs.length ≤ 4611686018427387903) (hll : l.length ≤ 4611686018427387903)
    (bx : Bx) (obx : HitM.Bx.ok bx) (f t : Nat) (hft : f < t) (ht : t ≤ l.length) :
    Calls Try.prog 40 #[.pointer (some ⟨gM, 0, none⟩), .agg #[.int .i64 bx.lo.x, .int .i64 bx.lo.y, .int .i64 bx.lo.z, .int .i64 bx.hi.x, .int .i64 bx.hi.y, .int .i64 bx.hi.z, .int .i64 (f : Int), .int .i64 (t : Int), .int .i64 (-1), .int .i64 (-1)]] w
      (fun e w' => e = .returned (.tuple #[]) ∧ Own .i64 9223372036854775808 3 base w' (.slice (some ⟨blk, 0, none⟩) l.length cap) (putSeg l f (((l.drop f).take (t - f)).mergeSort (leN (axisF bx) bs))) ∧ Keeps (fun k => k = blk) w w') := by
  obtain ⟨⟨lX, lY, lZ⟩, ⟨hX, hY, hZ⟩⟩ := bx
  obtain ⟨ax, hax⟩ : ∃ z, z = axisF ⟨⟨lX, lY, lZ⟩, ⟨hX, hY, hZ⟩⟩ := ⟨_, rfl⟩
  rw [← hax]
  unfold axisF at hax
  dsimp only at hax
  have ix := obx.1.1; have iy := obx.1.2.1; have iz := obx.1.2.2; have jx := obx.2.1; have jy := obx.2.2.1; have jz := obx.2.2.2
  dsimp only at ix iy iz jx jy jz
  have CX := Lib.hid (sub_any hX lX jx.1 jx.2 ix.1 ix.2)
  have CY := Lib.hid (sub_any hY lY jy.1 jy.2 iy.1 iy.2)
  have CZ := Lib.hid (sub_any hZ lZ jz.1 jz.2 iz.1 iz.2)
  generalize subF hX lX = x at CX hax
  generalize subF hY lY = y at CY hax
  generalize subF hZ lZ = z at CZ hax
  have HAX := Lib.hid hax
  have HLK := Lib.hid hl
  have HOK := Lib.hid ok
  have HSZ := Lib.hid (And.intro hb hll)
  clear hax ix iy iz jx jy jz obx hl ok hb hll
  have hcap := cap_of h.o
  have hA := alloc2_0 w (.cells #[.pointer (some ⟨gM, 0, none⟩)] 72) (.cells #[.int .i64 lX, .int .i64 lY, .int .i64 lZ, .int .i64 hX, .int .i64 hY, .int .i64 hZ, .int .i64 (f : Int), .int .i64 (t : Int), .int .i64 (-1), .int .i64 (-1)] 58)
  have hB := alloc2_1 w (.cells #[.pointer (some ⟨gM, 0, none⟩)] 72) (.cells #[.int .i64 lX, .int .i64 lY, .int .i64 lZ, .int .i64 hX, .int .i64 hY, .int .i64 hZ, .int .i64 (f : Int), .int .i64 (t : Int), .int .i64 (-1), .int .i64 (-1)] 58)
  have hB0 := alloc2_below w (.cells #[.pointer (some ⟨gM, 0, none⟩)] 72) (.cells #[.int .i64 lX, .int .i64 lY, .int .i64 lZ, .int .i64 hX, .int .i64 hY, .int .i64 hZ, .int .i64 (f : Int), .int .i64 (t : Int), .int .i64 (-1), .int .i64 (-1)] 58)
  have HMT := Lib.hid (Base.lt_of_heap h.m)
  have HTT := Lib.hid (Base.lt_of_heap h.t)
  obtain ⟨W, hW⟩ : ∃ ww, ww = (w.alloc (.cells #[.pointer (some ⟨gM, 0, none⟩)] 72)).alloc (.cells #[.int .i64 lX, .int .i64 lY, .int .i64 lZ, .int .i64 hX, .int .i64 hY, .int .i64 hZ, .int .i64 (f : Int), .int .i64 (t : Int), .int .i64 (-1), .int .i64 (-1)] 58) := ⟨_, rfl⟩
  rw [← hW] at hA hB hB0
  have HP0 := Lib.hid hA
  have HN0 := Lib.hid hB
  have HB0 := Lib.hid hB0
  have HM0 := Lib.hid (vec_step h.m hB0)
  have HT0 := Lib.hid (vec_step h.t hB0)
  have HRB := Lib.hid h.b
  have HRO := Lib.hid h.o
  have HBK := Lib.hid (And.intro h.nM (And.intro h.nT h.nb))
  have HBL := Lib.hid (show blk < w.heap.size from (h.o.lt blk rfl).2)
  have HWW := Lib.hid hW
  clear hA hB hB0 hW h
  go_enter Try.func40, Try.ntmps40
  go_upto_region 1 with (fail)
  rw [← HWW.out]
  clear HWW
  have cHN0 := cell_row HN0.out 0 _ rfl
  have cHN1 := cell_row HN0.out 1 _ rfl
  have cHN2 := cell_row HN0.out 2 _ rfl
  have cHN3 := cell_row HN0.out 3 _ rfl
  have cHN4 := cell_row HN0.out 4 _ rfl
  have cHN5 := cell_row HN0.out 5 _ rfl
  have cHN6 := cell_row HN0.out 6 _ rfl
  have cHN7 := cell_row HN0.out 7 _ rfl
  go_wp2_with fail
  refine (CX.out _).mono ?_
  rintro e _ ⟨rfl, rfl⟩
  go_wp2_with fail
  refine (CY.out _).mono ?_
  rintro e _ ⟨rfl, rfl⟩
  go_wp2_with fail
  refine (CZ.out _).mono ?_
  rintro e _ ⟨rfl, rfl⟩
  clear CX CY CZ
  go_upto_region 6 with (fail)
  clear cHN0 cHN1 cHN2 cHN3 cHN4 cHN5 cHN6 cHN7
  have HKG := Lib.hid (show w.heap.size + 1 < W.heap.size from Base.lt_of_heap HN0.out)
  have hx := ext_alloc W (.cells #[.func (.func 49) #[] #[.pointer (some ⟨w.heap.size, 0, none⟩)]] 106)
  have hn := heap_alloc_new W (.cells #[.func (.func 49) #[] #[.pointer (some ⟨w.heap.size, 0, none⟩)]] 106)
  obtain ⟨y1, hW⟩ : ∃ ww, ww = W.alloc (.cells #[.func (.func 49) #[] #[.pointer (some ⟨w.heap.size, 0, none⟩)]] 106) := ⟨_, rfl⟩
  rw [← hW] at hx hn ⊢
  clear hW
  have HP1 := Lib.hid (vec_step HP0.out hx)
  have HN1 := Lib.hid (vec_step HN0.out hx)
  have HM1 := Lib.hid (vec_step HM0.out hx)
  have HT1 := Lib.hid (vec_step HT0.out hx)
  have HB1 := Lib.hid (HB0.out.trans (hx.mono HB0.out.size))
  clear HP0 HN0 HM0 HT0 HB0 hx  
  have HK1 := Lib.hid (hn)
  clear hn
  generalize W.heap.size = gHK at HK1 HKG ⊢
  by_cases c1 : y ≤ x ∧ z ≤ x
  · have hx : ax = 0 := by rw [HAX.out, if_pos c1]
    have d1 : decide (y ≤ x) = true := decide_eq_true c1.1
    have d2 : decide (z ≤ x) = true := decide_eq_true c1.2
    clear c1 HAX
    have HKA := Lib.hid (show KeyAt y1 49 gHK w.heap.size gM vb bs from ⟨cell_row HK1.out 0 _ rfl, cell_row HP1.out 0 _ rfl, cell_row HM1.out 1 _ rfl, HRB.out.below HB1.out (Nat.le_refl _), Base.lt_of_heap HK1.out, Base.lt_of_heap HP1.out, Base.lt_of_heap HM1.out⟩)
    have HOO := Lib.hid (HRO.out.below HB1.out (Nat.le_refl _))
    have HGK := Lib.hid (show gHK ≠ blk by intro e; have := HKG.out; have := HBL.out; omega)
    have fHP0 := fun d os => cell_regrown (cell_row HP1.out 0 _ rfl) d os
    have fHM0 := fun d os => cell_regrown (cell_row HM1.out 0 _ rfl) d os
    have fHT5 := fun d os => cell_regrown (cell_row HT1.out 5 _ rfl) d os
    have fHN6 := fun d os => cell_regrown (cell_row HN1.out 6 _ rfl) d os
    have fHN7 := fun d os => cell_regrown (cell_row HN1.out 7 _ rfl) d os
    go_upto_region 9 with (fail)
    refine wp_region_below_tail 13 (by kernel_rfl) (by kernel_rfl) ?_
    simp only [List.take_succ_cons, List.take_zero, List.drop_succ_cons, List.drop_zero]
    repeat (go_big_quiet_step (fail))
    refine wpQuiet_nil ?_
    first | (rintro _ ⟨⟨dq, osq⟩, rfl⟩) | (rintro ⟨dq, osq⟩)
    have hb := below_regrown y1 dq osq
    obtain ⟨y2, hW⟩ : ∃ ww, ww = grow (redrawn y1 dq) osq := ⟨_, rfl⟩
    rw [← hW] at hb ⊢
    clear hW
    have HKB := Lib.hid (HKA.out.below hb)
    have HOB := Lib.hid (HOO.out.below hb (Nat.le_refl _))
    clear HKA HOO
    have HP2 := Lib.hid (vec_step HP1.out hb)
    have HN2 := Lib.hid (vec_step HN1.out hb)
    have HM2 := Lib.hid (vec_step HM1.out hb)
    have HT2 := Lib.hid (vec_step HT1.out hb)
    have HB2 := Lib.hid (HB1.out.trans (hb.mono HB1.out.size))
    have HK2 := Lib.hid (vec_step HK1.out hb)
    clear HP1 HN1 HM1 HT1 HB1 HK1 hb  fHP0 fHM0 fHT5 fHN6 fHN7
    go_wp2_with fail
    refine (sortFunc0_any base gHK w.heap.size gM blk cap vb bs l _ HKB.out HOK.out HOB.out HLK.out HSZ.out.1 HSZ.out.2 f t _ hft ht HGK.out (by have := HBL.out; omega) HBK.out.1 HBK.out.2.2).mono ?_
    rintro e y99 ⟨rfl, ho, hk⟩
    have HF := Lib.hid ho
    have HKK := Lib.hid ((Keeps.of_below HB2.out (fun k => k = blk) (fun k h1 h2 => by omega)).trans hk (fun k e => .inl e))
    clear ho hk
    go_wp2_with fail
    first | go_ret | go_end0
    exact ⟨rfl, by rw [hx]; exact HF.out, HKK.out⟩
  · by_cases e1 : y ≤ x
    · have d1 : decide (y ≤ x) = true := decide_eq_true e1
      have d2 : decide (z ≤ x) = false := decide_eq_false (fun h => c1 ⟨e1, h⟩)
      clear e1
      by_cases c2 : z ≤ y
      · have hx : ax = 1 := by rw [HAX.out, if_neg c1, if_pos c2]
        have d3 : decide (z ≤ y) = true := decide_eq_true c2
        clear c1 c2 HAX
        have q0 := cell_row HK1.out 0 _ rfl
        have t0 := frozen_of_row _ _ 0 _ _ HK1.out
        go_upto_region 9 with (fail)
        have HP80 := Lib.hid ((heap_setCell_other y1 ⟨gHK, 0, none⟩ _ (.func (.func 50) #[] #[.pointer (some ⟨w.heap.size, 0, none⟩)]) (show w.heap.size ≠ gHK by have := HKG.out; have := HMT.out; have := HTT.out; omega)).trans HP1.out)
        have HN80 := Lib.hid ((heap_setCell_other y1 ⟨gHK, 0, none⟩ _ (.func (.func 50) #[] #[.pointer (some ⟨w.heap.size, 0, none⟩)]) (show w.heap.size + 1 ≠ gHK by have := HKG.out; have := HMT.out; have := HTT.out; omega)).trans HN1.out)
        have HM80 := Lib.hid ((heap_setCell_other y1 ⟨gHK, 0, none⟩ _ (.func (.func 50) #[] #[.pointer (some ⟨w.heap.size, 0, none⟩)]) (show gM ≠ gHK by have := HKG.out; have := HMT.out; have := HTT.out; omega)).trans HM1.out)
        have HT80 := Lib.hid ((heap_setCell_other y1 ⟨gHK, 0, none⟩ _ (.func (.func 50) #[] #[.pointer (some ⟨w.heap.size, 0, none⟩)]) (show gT ≠ gHK by have := HKG.out; have := HMT.out; have := HTT.out; omega)).trans HT1.out)
        have HK80 := Lib.hid (show (y1.setCell ⟨gHK, 0, none⟩ (.func (.func 50) #[] #[.pointer (some ⟨w.heap.size, 0, none⟩)])).heap[gHK]? = some (.cells #[(.func (.func 50) #[] #[.pointer (some ⟨w.heap.size, 0, none⟩)])] 106) from heap_setCell_same _ _ _ _ _ _ HK1.out)
        have HB80 := Lib.hid (setCell_below HB1.out (show w.heap.size ≤ gHK by have := HKG.out; omega) (.func (.func 50) #[] #[.pointer (some ⟨w.heap.size, 0, none⟩)]) (j := 0))
        obtain ⟨W8, hW8⟩ : ∃ ww, ww = y1.setCell ⟨gHK, 0, none⟩ (.func (.func 50) #[] #[.pointer (some ⟨w.heap.size, 0, none⟩)]) := ⟨_, rfl⟩
        rw [← hW8] at HP80 HN80 HM80 HT80 HK80 HB80 ⊢
        clear hW8 q0 t0 HP1 HN1 HM1 HT1 HB1 HK1
        have HKA := Lib.hid (show KeyAt W8 50 gHK w.heap.size gM vb bs from ⟨cell_row HK80.out 0 _ rfl, cell_row HP80.out 0 _ rfl, cell_row HM80.out 1 _ rfl, HRB.out.below HB80.out (Nat.le_refl _), Base.lt_of_heap HK80.out, Base.lt_of_heap HP80.out, Base.lt_of_heap HM80.out⟩)
        have HOO := Lib.hid (HRO.out.below HB80.out (Nat.le_refl _))
        have HGK := Lib.hid (show gHK ≠ blk by intro e; have := HKG.out; have := HBL.out; omega)
        have fHP0 := fun d os => cell_regrown (cell_row HP80.out 0 _ rfl) d os
        have fHM0 := fun d os => cell_regrown (cell_row HM80.out 0 _ rfl) d os
        have fHT5 := fun d os => cell_regrown (cell_row HT80.out 5 _ rfl) d os
        have fHN6 := fun d os => cell_regrown (cell_row HN80.out 6 _ rfl) d os
        have fHN7 := fun d os => cell_regrown (cell_row HN80.out 7 _ rfl) d os
        go_upto_region 9 with (fail)
        refine wp_region_below_tail 13 (by kernel_rfl) (by kernel_rfl) ?_
        simp only [List.take_succ_cons, List.take_zero, List.drop_succ_cons, List.drop_zero]
        repeat (go_big_quiet_step (fail))
        refine wpQuiet_nil ?_
        first | (rintro _ ⟨⟨dq, osq⟩, rfl⟩) | (rintro ⟨dq, osq⟩)
        have hb := below_regrown W8 dq osq
        obtain ⟨y3, hW⟩ : ∃ ww, ww = grow (redrawn W8 dq) osq := ⟨_, rfl⟩
        rw [← hW] at hb ⊢
        clear hW
        have HKB := Lib.hid (HKA.out.below hb)
        have HOB := Lib.hid (HOO.out.below hb (Nat.le_refl _))
        clear HKA HOO
        have HP81 := Lib.hid (vec_step HP80.out hb)
        have HN81 := Lib.hid (vec_step HN80.out hb)
        have HM81 := Lib.hid (vec_step HM80.out hb)
        have HT81 := Lib.hid (vec_step HT80.out hb)
        have HB81 := Lib.hid (HB80.out.trans (hb.mono HB80.out.size))
        have HK81 := Lib.hid (vec_step HK80.out hb)
        clear HP80 HN80 HM80 HT80 HB80 HK80 hb  fHP0 fHM0 fHT5 fHN6 fHN7
        go_wp2_with fail
        refine (sortFunc1_any base gHK w.heap.size gM blk cap vb bs l _ HKB.out HOK.out HOB.out HLK.out HSZ.out.1 HSZ.out.2 f t _ hft ht HGK.out (by have := HBL.out; omega) HBK.out.1 HBK.out.2.2).mono ?_
        rintro e y99 ⟨rfl, ho, hk⟩
        have HF := Lib.hid ho
        have HKK := Lib.hid ((Keeps.of_below HB81.out (fun k => k = blk) (fun k h1 h2 => by omega)).trans hk (fun k e => .inl e))
        clear ho hk
        go_wp2_with fail
        first | go_ret | go_end0
        exact ⟨rfl, by rw [hx]; exact HF.out, HKK.out⟩
      · have hx : ax = 2 := by rw [HAX.out, if_neg c1, if_neg c2]
        have d3 : decide (z ≤ y) = false := decide_eq_false c2
        clear c1 c2 HAX
        have q0 := cell_row HK1.out 0 _ rfl
        have t0 := frozen_of_row _ _ 0 _ _ HK1.out
        go_upto_region 9 with (fail)
        have HP80 := Lib.hid ((heap_setCell_other y1 ⟨gHK, 0, none⟩ _ (.func (.func 51) #[] #[.pointer (some ⟨w.heap.size, 0, none⟩)]) (show w.heap.size ≠ gHK by have := HKG.out; have := HMT.out; have := HTT.out; omega)).trans HP1.out)
        have HN80 := Lib.hid ((heap_setCell_other y1 ⟨gHK, 0, none⟩ _ (.func (.func 51) #[] #[.pointer (some ⟨w.heap.size, 0, none⟩)]) (show w.heap.size + 1 ≠ gHK by have := HKG.out; have := HMT.out; have := HTT.out; omega)).trans HN1.out)
        have HM80 := Lib.hid ((heap_setCell_other y1 ⟨gHK, 0, none⟩ _ (.func (.func 51) #[] #[.pointer (some ⟨w.heap.size, 0, none⟩)]) (show gM ≠ gHK by have := HKG.out; have := HMT.out; have := HTT.out; omega)).trans HM1.out)
        have HT80 := Lib.hid ((heap_setCell_other y1 ⟨gHK, 0, none⟩ _ (.func (.func 51) #[] #[.pointer (some ⟨w.heap.size, 0, none⟩)]) (show gT ≠ gHK by have := HKG.out; have := HMT.out; have := HTT.out; omega)).trans HT1.out)
        have HK80 := Lib.hid (show (y1.setCell ⟨gHK, 0, none⟩ (.func (.func 51) #[] #[.pointer (some ⟨w.heap.size, 0, none⟩)])).heap[gHK]? = some (.cells #[(.func (.func 51) #[] #[.pointer (some ⟨w.heap.size, 0, none⟩)])] 106) from heap_setCell_same _ _ _ _ _ _ HK1.out)
        have HB80 := Lib.hid (setCell_below HB1.out (show w.heap.size ≤ gHK by have := HKG.out; omega) (.func (.func 51) #[] #[.pointer (some ⟨w.heap.size, 0, none⟩)]) (j := 0))
        obtain ⟨W8, hW8⟩ : ∃ ww, ww = y1.setCell ⟨gHK, 0, none⟩ (.func (.func 51) #[] #[.pointer (some ⟨w.heap.size, 0, none⟩)]) := ⟨_, rfl⟩
        rw [← hW8] at HP80 HN80 HM80 HT80 HK80 HB80 ⊢
        clear hW8 q0 t0 HP1 HN1 HM1 HT1 HB1 HK1
        have HKA := Lib.hid (show KeyAt W8 51 gHK w.heap.size gM vb bs from ⟨cell_row HK80.out 0 _ rfl, cell_row HP80.out 0 _ rfl, cell_row HM80.out 1 _ rfl, HRB.out.below HB80.out (Nat.le_refl _), Base.lt_of_heap HK80.out, Base.lt_of_heap HP80.out, Base.lt_of_heap HM80.out⟩)
        have HOO := Lib.hid (HRO.out.below HB80.out (Nat.le_refl _))
        have HGK := Lib.hid (show gHK ≠ blk by intro e; have := HKG.out; have := HBL.out; omega)
        have fHP0 := fun d os => cell_regrown (cell_row HP80.out 0 _ rfl) d os
        have fHM0 := fun d os => cell_regrown (cell_row HM80.out 0 _ rfl) d os
        have fHT5 := fun d os => cell_regrown (cell_row HT80.out 5 _ rfl) d os
        have fHN6 := fun d os => cell_regrown (cell_row HN80.out 6 _ rfl) d os
        have fHN7 := fun d os => cell_regrown (cell_row HN80.out 7 _ rfl) d os
        go_upto_region 9 with (fail)
        refine wp_region_below_tail 13 (by kernel_rfl) (by kernel_rfl) ?_
        simp only [List.take_succ_cons, List.take_zero, List.drop_succ_cons, List.drop_zero]
        repeat (go_big_quiet_step (fail))
        refine wpQuiet_nil ?_
        first | (rintro _ ⟨⟨dq, osq⟩, rfl⟩) | (rintro ⟨dq, osq⟩)
        have hb := below_regrown W8 dq osq
        obtain ⟨y4, hW⟩ : ∃ ww, ww = grow (redrawn W8 dq) osq := ⟨_, rfl⟩
        rw [← hW] at hb ⊢
        clear hW
        have HKB := Lib.hid (HKA.out.below hb)
        have HOB := Lib.hid (HOO.out.below hb (Nat.le_refl _))
        clear HKA HOO
        have HP81 := Lib.hid (vec_step HP80.out hb)
        have HN81 := Lib.hid (vec_step HN80.out hb)
        have HM81 := Lib.hid (vec_step HM80.out hb)
        have HT81 := Lib.hid (vec_step HT80.out hb)
        have HB81 := Lib.hid (HB80.out.trans (hb.mono HB80.out.size))
        have HK81 := Lib.hid (vec_step HK80.out hb)
        clear HP80 HN80 HM80 HT80 HB80 HK80 hb  fHP0 fHM0 fHT5 fHN6 fHN7
        go_wp2_with fail
        refine (sortFunc2_any base gHK w.heap.size gM blk cap vb bs l _ HKB.out HOK.out HOB.out HLK.out HSZ.out.1 HSZ.out.2 f t _ hft ht HGK.out (by have := HBL.out; omega) HBK.out.1 HBK.out.2.2).mono ?_
        rintro e y99 ⟨rfl, ho, hk⟩
        have HF := Lib.hid ho
        have HKK := Lib.hid ((Keeps.of_below HB81.out (fun k => k = blk) (fun k h1 h2 => by omega)).trans hk (fun k e => .inl e))
        clear ho hk
        go_wp2_with fail
        first | go_ret | go_end0
        exact ⟨rfl, by rw [hx]; exact HF.out, HKK.out⟩
    · have d1 : decide (y ≤ x) = false := decide_eq_false e1
      clear e1
      by_cases c2 : z ≤ y
      · have hx : ax = 1 := by rw [HAX.out, if_neg c1, if_pos c2]
        have d3 : decide (z ≤ y) = true := decide_eq_true c2
        clear c1 c2 HAX
        have q0 := cell_row HK1.out 0 _ rfl
        have t0 := frozen_of_row _ _ 0 _ _ HK1.out
        go_upto_region 9 with (fail)
        have HP80 := Lib.hid ((heap_setCell_other y1 ⟨gHK, 0, none⟩ _ (.func (.func 50) #[] #[.pointer (some ⟨w.heap.size, 0, none⟩)]) (show w.heap.size ≠ gHK by have := HKG.out; have := HMT.out; have := HTT.out; omega)).trans HP1.out)
        have HN80 := Lib.hid ((heap_setCell_other y1 ⟨gHK, 0, none⟩ _ (.func (.func 50) #[] #[.pointer (some ⟨w.heap.size, 0, none⟩)]) (show w.heap.size + 1 ≠ gHK by have := HKG.out; have := HMT.out; have := HTT.out; omega)).trans HN1.out)
        have HM80 := Lib.hid ((heap_setCell_other y1 ⟨gHK, 0, none⟩ _ (.func (.func 50) #[] #[.pointer (some ⟨w.heap.size, 0, none⟩)]) (show gM ≠ gHK by have := HKG.out; have := HMT.out; have := HTT.out; omega)).trans HM1.out)
        have HT80 := Lib.hid ((heap_setCell_other y1 ⟨gHK, 0, none⟩ _ (.func (.func 50) #[] #[.pointer (some ⟨w.heap.size, 0, none⟩)]) (show gT ≠ gHK by have := HKG.out; have := HMT.out; have := HTT.out; omega)).trans HT1.out)
        have HK80 := Lib.hid (show (y1.setCell ⟨gHK, 0, none⟩ (.func (.func 50) #[] #[.pointer (some ⟨w.heap.size, 0, none⟩)])).heap[gHK]? = some (.cells #[(.func (.func 50) #[] #[.pointer (some ⟨w.heap.size, 0, none⟩)])] 106) from heap_setCell_same _ _ _ _ _ _ HK1.out)
        have HB80 := Lib.hid (setCell_below HB1.out (show w.heap.size ≤ gHK by have := HKG.out; omega) (.func (.func 50) #[] #[.pointer (some ⟨w.heap.size, 0, none⟩)]) (j := 0))
        obtain ⟨W8, hW8⟩ : ∃ ww, ww = y1.setCell ⟨gHK, 0, none⟩ (.func (.func 50) #[] #[.pointer (some ⟨w.heap.size, 0, none⟩)]) := ⟨_, rfl⟩
        rw [← hW8] at HP80 HN80 HM80 HT80 HK80 HB80 ⊢
        clear hW8 q0 t0 HP1 HN1 HM1 HT1 HB1 HK1
        have HKA := Lib.hid (show KeyAt W8 50 gHK w.heap.size gM vb bs from ⟨cell_row HK80.out 0 _ rfl, cell_row HP80.out 0 _ rfl, cell_row HM80.out 1 _ rfl, HRB.out.below HB80.out (Nat.le_refl _), Base.lt_of_heap HK80.out, Base.lt_of_heap HP80.out, Base.lt_of_heap HM80.out⟩)
        have HOO := Lib.hid (HRO.out.below HB80.out (Nat.le_refl _))
        have HGK := Lib.hid (show gHK ≠ blk by intro e; have := HKG.out; have := HBL.out; omega)
        have fHP0 := fun d os => cell_regrown (cell_row HP80.out 0 _ rfl) d os
        have fHM0 := fun d os => cell_regrown (cell_row HM80.out 0 _ rfl) d os
        have fHT5 := fun d os => cell_regrown (cell_row HT80.out 5 _ rfl) d os
        have fHN6 := fun d os => cell_regrown (cell_row HN80.out 6 _ rfl) d os
        have fHN7 := fun d os => cell_regrown (cell_row HN80.out 7 _ rfl) d os
        go_upto_region 9 with (fail)
        refine wp_region_below_tail 13 (by kernel_rfl) (by kernel_rfl) ?_
        simp only [List.take_succ_cons, List.take_zero, List.drop_succ_cons, List.drop_zero]
        repeat (go_big_quiet_step (fail))
        refine wpQuiet_nil ?_
        first | (rintro _ ⟨⟨dq, osq⟩, rfl⟩) | (rintro ⟨dq, osq⟩)
        have hb := below_regrown W8 dq osq
        obtain ⟨y5, hW⟩ : ∃ ww, ww = grow (redrawn W8 dq) osq := ⟨_, rfl⟩
        rw [← hW] at hb ⊢
        clear hW
        have HKB := Lib.hid (HKA.out.below hb)
        have HOB := Lib.hid (HOO.out.below hb (Nat.le_refl _))
        clear HKA HOO
        have HP81 := Lib.hid (vec_step HP80.out hb)
        have HN81 := Lib.hid (vec_step HN80.out hb)
        have HM81 := Lib.hid (vec_step HM80.out hb)
        have HT81 := Lib.hid (vec_step HT80.out hb)
        have HB81 := Lib.hid (HB80.out.trans (hb.mono HB80.out.size))
        have HK81 := Lib.hid (vec_step HK80.out hb)
        clear HP80 HN80 HM80 HT80 HB80 HK80 hb  fHP0 fHM0 fHT5 fHN6 fHN7
        go_wp2_with fail
        refine (sortFunc1_any base gHK w.heap.size gM blk cap vb bs l _ HKB.out HOK.out HOB.out HLK.out HSZ.out.1 HSZ.out.2 f t _ hft ht HGK.out (by have := HBL.out; omega) HBK.out.1 HBK.out.2.2).mono ?_
        rintro e y99 ⟨rfl, ho, hk⟩
        have HF := Lib.hid ho
        have HKK := Lib.hid ((Keeps.of_below HB81.out (fun k => k = blk) (fun k h1 h2 => by omega)).trans hk (fun k e => .inl e))
        clear ho hk
        go_wp2_with fail
        first | go_ret | go_end0
        exact ⟨rfl, by rw [hx]; exact HF.out, HKK.out⟩
      · have hx : ax = 2 := by rw [HAX.out, if_neg c1, if_neg c2]
        have d3 : decide (z ≤ y) = false := decide_eq_false c2
        clear c1 c2 HAX
        have q0 := cell_row HK1.out 0 _ rfl
        have t0 := frozen_of_row _ _ 0 _ _ HK1.out
        go_upto_region 9 with (fail)
        have HP80 := Lib.hid ((heap_setCell_other y1 ⟨gHK, 0, none⟩ _ (.func (.func 51) #[] #[.pointer (some ⟨w.heap.size, 0, none⟩)]) (show w.heap.size ≠ gHK by have := HKG.out; have := HMT.out; have := HTT.out; omega)).trans HP1.out)
        have HN80 := Lib.hid ((heap_setCell_other y1 ⟨gHK, 0, none⟩ _ (.func (.func 51) #[] #[.pointer (some ⟨w.heap.size, 0, none⟩)]) (show w.heap.size + 1 ≠ gHK by have := HKG.out; have := HMT.out; have := HTT.out; omega)).trans HN1.out)
        have HM80 := Lib.hid ((heap_setCell_other y1 ⟨gHK, 0, none⟩ _ (.func (.func 51) #[] #[.pointer (some ⟨w.heap.size, 0, none⟩)]) (show gM ≠ gHK by have := HKG.out; have := HMT.out; have := HTT.out; omega)).trans HM1.out)
        have HT80 := Lib.hid ((heap_setCell_other y1 ⟨gHK, 0, none⟩ _ (.func (.func 51) #[] #[.pointer (some ⟨w.heap.size, 0, none⟩)]) (show gT ≠ gHK by have := HKG.out; have := HMT.out; have := HTT.out; omega)).trans HT1.out)
        have HK80 := Lib.hid (show (y1.setCell ⟨gHK, 0, none⟩ (.func (.func 51) #[] #[.pointer (some ⟨w.heap.size, 0, none⟩)])).heap[gHK]? = some (.cells #[(.func (.func 51) #[] #[.pointer (some ⟨w.heap.size, 0, none⟩)])] 106) from heap_setCell_same _ _ _ _ _ _ HK1.out)
        have HB80 := Lib.hid (setCell_below HB1.out (show w.heap.size ≤ gHK by have := HKG.out; omega) (.func (.func 51) #[] #[.pointer (some ⟨w.heap.size, 0, none⟩)]) (j := 0))
        obtain ⟨W8, hW8⟩ : ∃ ww, ww = y1.setCell ⟨gHK, 0, none⟩ (.func (.func 51) #[] #[.pointer (some ⟨w.heap.size, 0, none⟩)]) := ⟨_, rfl⟩
        rw [← hW8] at HP80 HN80 HM80 HT80 HK80 HB80 ⊢
        clear hW8 q0 t0 HP1 HN1 HM1 HT1 HB1 HK1
        have HKA := Lib.hid (show KeyAt W8 51 gHK w.heap.size gM vb bs from ⟨cell_row HK80.out 0 _ rfl, cell_row HP80.out 0 _ rfl, cell_row HM80.out 1 _ rfl, HRB.out.below HB80.out (Nat.le_refl _), Base.lt_of_heap HK80.out, Base.lt_of_heap HP80.out, Base.lt_of_heap HM80.out⟩)
        have HOO := Lib.hid (HRO.out.below HB80.out (Nat.le_refl _))
        have HGK := Lib.hid (show gHK ≠ blk by intro e; have := HKG.out; have := HBL.out; omega)
        have fHP0 := fun d os => cell_regrown (cell_row HP80.out 0 _ rfl) d os
        have fHM0 := fun d os => cell_regrown (cell_row HM80.out 0 _ rfl) d os
        have fHT5 := fun d os => cell_regrown (cell_row HT80.out 5 _ rfl) d os
        have fHN6 := fun d os => cell_regrown (cell_row HN80.out 6 _ rfl) d os
        have fHN7 := fun d os => cell_regrown (cell_row HN80.out 7 _ rfl) d os
        go_upto_region 9 with (fail)
        refine wp_region_below_tail 13 (by kernel_rfl) (by kernel_rfl) ?_
        simp only [List.take_succ_cons, List.take_zero, List.drop_succ_cons, List.drop_zero]
        repeat (go_big_quiet_step (fail))
        refine wpQuiet_nil ?_
        first | (rintro _ ⟨⟨dq, osq⟩, rfl⟩) | (rintro ⟨dq, osq⟩)
        have hb := below_regrown W8 dq osq
        obtain ⟨y6, hW⟩ : ∃ ww, ww = grow (redrawn W8 dq) osq := ⟨_, rfl⟩
        rw [← hW] at hb ⊢
        clear hW
        have HKB := Lib.hid (HKA.out.below hb)
        have HOB := Lib.hid (HOO.out.below hb (Nat.le_refl _))
        clear HKA HOO
        have HP81 := Lib.hid (vec_step HP80.out hb)
        have HN81 := Lib.hid (vec_step HN80.out hb)
        have HM81 := Lib.hid (vec_step HM80.out hb)
        have HT81 := Lib.hid (vec_step HT80.out hb)
        have HB81 := Lib.hid (HB80.out.trans (hb.mono HB80.out.size))
        have HK81 := Lib.hid (vec_step HK80.out hb)
        clear HP80 HN80 HM80 HT80 HB80 HK80 hb  fHP0 fHM0 fHT5 fHN6 fHN7
        go_wp2_with fail
        refine (sortFunc2_any base gHK w.heap.size gM blk cap vb bs l _ HKB.out HOK.out HOB.out HLK.out HSZ.out.1 HSZ.out.2 f t _ hft ht HGK.out (by have := HBL.out; omega) HBK.out.1 HBK.out.2.2).mono ?_
        rintro e y99 ⟨rfl, ho, hk⟩
        have HF := Lib.hid ho
        have HKK := Lib.hid ((Keeps.of_below HB81.out (fun k => k = blk) (fun k h1 h2 => by omega)).trans hk (fun k e => .inl e))
        clear ho hk
        go_wp2_with fail
        first | go_ret | go_end0
        exact ⟨rfl, by rw [hx]; exact HF.out, HKK.out⟩

end Go.Proofs.Ytdaokkgenfpmhaa.BvhU
