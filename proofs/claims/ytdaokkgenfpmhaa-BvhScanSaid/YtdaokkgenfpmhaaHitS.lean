/- The walks of hit.ballShape and hit.Shape. -/
import Derived.Test.YtdaokkgenfpmhaaHitC
set_option linter.unusedVariables false
set_option linter.unusedSimpArgs false
namespace Go.Proofs.Ytdaokkgenfpmhaa.HitS
open Go.RowKit Go.Sort FixM Base Num FixW Qb Qt Qa Qf Qg VecW VecV VecU LightQ LightC MeshM Rec MeshA MeshB MeshC MeshD MeshE MeshP HitM HitT HitB HitX HitN HitC
theorem idx2_0 (a b : Int) (w : World) : (Instr.index 103 (.agg #[.int .i64 a, .int .i64 b]) (.int .i64 0)).run Try.prog w = .ok (.int .i64 a) w := by kernel_rfl
theorem idx2_1 (a b : Int) (w : World) : (Instr.index 103 (.agg #[.int .i64 a, .int .i64 b]) (.int .i64 1)).run Try.prog w = .ok (.int .i64 b) w := by kernel_rfl
theorem al3h (w : World) (A B C : Obj) : (((w.alloc A).alloc B).alloc C).heap[w.heap.size]? = some A ∧ (((w.alloc A).alloc B).alloc C).heap[w.heap.size + 1]? = some B ∧ (((w.alloc A).alloc B).alloc C).heap[w.heap.size + 1 + 1]? = some C ∧ Below w.heap.size w (((w.alloc A).alloc B).alloc C) :=
  ⟨(heap_alloc_old _ _ (Base.lt_of_heap (alloc2_0 w A B))).trans (alloc2_0 _ _ _), (heap_alloc_old _ _ (Base.lt_of_heap (alloc2_1 w A B))).trans (alloc2_1 _ _ _), MeshQ.al3 _ _ _ _, MeshQ.al3_b _ _ _ _⟩
theorem ok_corners (m : Msh) (ok : m.ok) (i : Int) {a b c : V3} (h : cornersF m i = some (a, b, c)) : a.ok ∧ b.ok ∧ c.ok := by
  have pk : ∀ x, (ptF m x).ok := by
    intro x
    unfold ptF
    rw [List.getD_eq_getElem?_getD]
    by_cases h : x.toNat < m.ps.length
    · rw [List.getElem?_eq_getElem h]; exact ok.ps _ (List.getElem_mem h)
    · rw [List.getElem?_eq_none (by omega)]; exact ⟨⟨by decide, by decide⟩, ⟨by decide, by decide⟩, by decide, by decide⟩
  unfold cornersF at h
  split at h
  · cases h
  split at h
  · cases h; exact ⟨pk _, pk _, pk _⟩
  · cases h
theorem ok_box (m : Msh) (ok : m.ok) (i : Int) : HitM.Bx.ok (boxF m i) := by
  have z : HitM.Bx.ok zeroB := ⟨⟨⟨by decide, by decide⟩, ⟨by decide, by decide⟩, by decide, by decide⟩, ⟨by decide, by decide⟩, ⟨by decide, by decide⟩, by decide, by decide⟩
  have pk : ∀ x, (ptF m x).ok := by
    intro x
    unfold ptF
    rw [List.getD_eq_getElem?_getD]
    by_cases h : x.toNat < m.ps.length
    · rw [List.getElem?_eq_getElem h]; exact ok.ps _ (List.getElem_mem h)
    · rw [List.getElem?_eq_none (by omega)]; exact ⟨⟨by decide, by decide⟩, ⟨by decide, by decide⟩, by decide, by decide⟩
  have mn : ∀ a b c, In a → In b → In c → In (min3 a b c) := by
    intro a b c ha hb hc
    unfold min3
    (repeat' split) <;> assumption
  have mx : ∀ a b c, In a → In b → In c → In (max3 a b c) := by
    intro a b c ha hb hc
    unfold max3
    (repeat' split) <;> assumption
  unfold boxF
  split
  · exact z
  split
  · unfold MeshP.triF
    split
    · exact ⟨⟨mn _ _ _ (pk _).1 (pk _).1 (pk _).1, mn _ _ _ (pk _).2.1 (pk _).2.1 (pk _).2.1, mn _ _ _ (pk _).2.2 (pk _).2.2 (pk _).2.2⟩, mx _ _ _ (pk _).1 (pk _).1 (pk _).1, mx _ _ _ (pk _).2.1 (pk _).2.1 (pk _).2.1, mx _ _ _ (pk _).2.2 (pk _).2.2 (pk _).2.2⟩
    · exact z
  · exact ⟨⟨in_sub _ _, in_sub _ _, in_sub _ _⟩, in_add _ _, in_add _ _, in_add _ _⟩

set_option maxRecDepth 100000 in
set_option maxHeartbeats 16000000 in
theorem ballShape_any (v : Value) (m : Msh) (w : World) (hm : IsMesh w v m) (ok : m.ok) (hl : m.ts.length + m.bs.length ≤ 9223372036854775807) (j : Nat) (hj : j < m.bs.length) (i : Int) (hij : i = (m.ts.length : Int) + (j : Int)) (hi : In i) (r : Ry) (hr : r.ok) (least : Int) : Calls Try.prog 35 #[v, .int .i64 i, rayV r, .int .i64 least] w (VTo (shapeR (ballShapeF m i r least)) w) := by
  obtain ⟨a0, c0, a1, c1, a2, c2, rfl, h0, h1, h2, l0, l1, l2⟩ := hm.open_
  have HOK := Lib.hid ok
  have HRK := Lib.hid hr
  have HTB := Lib.hid hl
  have HIN := Lib.hid hi
  have HM0_ := Lib.hid hm
  have HBS0_ := Lib.hid h2
  obtain ⟨⟨oX, oY, oZ⟩, ⟨dX, dY, dZ⟩⟩ := r
  dsimp only [rayV] at *
  obtain ⟨hA, hB_, hC, hB0⟩ := al3h w (.cells #[.slice a0 m.ps.length c0, .slice a1 m.ts.length c1, .slice a2 m.bs.length c2] 31) (.cells #[.int .i64 oX, .int .i64 oY, .int .i64 oZ, .int .i64 dX, .int .i64 dY, .int .i64 dZ] 25) (.cells #[.int .i64 0, .int .i64 0, .int .i64 0, .int .i64 0] 38)
  obtain ⟨W, hW⟩ : ∃ ww, ww = ((w.alloc (.cells #[.slice a0 m.ps.length c0, .slice a1 m.ts.length c1, .slice a2 m.bs.length c2] 31)).alloc (.cells #[.int .i64 oX, .int .i64 oY, .int .i64 oZ, .int .i64 dX, .int .i64 dY, .int .i64 dZ] 25)).alloc (.cells #[.int .i64 0, .int .i64 0, .int .i64 0, .int .i64 0] 38) := ⟨_, rfl⟩
  rw [← hW] at hA hB_ hC hB0
  have HR0 := Lib.hid hA
  have HY0 := Lib.hid hB_
  have HZ0 := Lib.hid hC
  have HB0 := Lib.hid hB0
  have HM0 := Lib.hid (HM0_.out.below hB0)
  have HWW := Lib.hid hW
  clear hA hB_ hC hB0 hW hm h0 h1 h2 HM0_ l0 l1 l2 ok hr
  have wr_ : IntKind.i64.wrap (i - (m.ts.length : Int)) = (j : Int) := by rw [wrap_in (by omega) (by omega)]; omega
  have hjd : decide (j < m.bs.length) = true := decide_eq_true hj
  have hjd2 : decide ((j : Int) < (m.bs.length : Int)) = true := decide_eq_true (by omega)
  have hba : ballAt m i = m.bs[j] := by unfold ballAt; rw [hij, show (m.ts.length : Int) + (j : Int) - (m.ts.length : Int) = (j : Int) by omega]; simp [hj]
  obtain ⟨⟨⟨bX, bY, bZ⟩, br⟩, hbj⟩ : ∃ zz, zz = m.bs[j] := ⟨_, rfl⟩
  have okj : (⟨bX, bY, bZ⟩ : V3).ok ∧ In br := by have := HOK.out.bs m.bs[j] (List.getElem_mem hj); rw [← hbj] at this; exact this
  have HBO := Lib.hid okj
  rw [← hbj] at hba
  have HBJ := Lib.hid (fun h : j < m.bs.length => (hbj.symm : m.bs[j]'h = _))
  clear okj hbj hij hi
  obtain ⟨res, hres⟩ : ∃ zz, zz = ballShapeF m i ⟨⟨oX, oY, oZ⟩, ⟨dX, dY, dZ⟩⟩ least := ⟨_, rfl⟩
  rw [← hres]
  unfold ballShapeF at hres
  rw [hba] at hres
  have HRES := Lib.hid hres
  clear hres hba
  cases hbn : boxH ⟨⟨oX, oY, oZ⟩, ⟨dX, dY, dZ⟩⟩ (boxF m i)
  · have hres : res = none := by rw [HRES.out, hbn]; rfl
    subst hres
    clear HRES
    go_enter Try.func35, Try.ntmps35
    go_upto_region 1 with (fail)
    rw [← HWW.out]
    clear HWW
    obtain ⟨⟨⟨p1, p2, p3⟩, ⟨p4, p5, p6⟩⟩, hbx⟩ : ∃ zz, zz = boxF m i := ⟨_, rfl⟩
    have okb := ok_box m HOK.out i
    rw [← hbx] at okb
    have Q1 := Lib.hid (qb (P := Try.prog) (W := W) (v := .agg #[.int .i64 p1, .int .i64 p2, .int .i64 p3, .int .i64 p4, .int .i64 p5, .int .i64 p6]) (fun w2 hb => by have := box_any _ m w2 (HM0.out.below hb) HOK.out HTB.out i HIN.out; rw [← hbx] at this; exact this))
    have Q2 := Lib.hid (qb (P := Try.prog) (W := W) (fun w2 hb => hbox_any ⟨⟨oX, oY, oZ⟩, ⟨dX, dY, dZ⟩⟩ ⟨⟨p1, p2, p3⟩, ⟨p4, p5, p6⟩⟩ HRK.out okb w2))
    have hbn2 := hbn
    rw [← hbx] at hbn2
    rw [hbn2] at Q2
    unfold boxR at Q2
    clear hbn2
    dsimp only [rayV, boxV, Option.getD_some, Option.getD_none, Option.isSome_some, Option.isSome_none] at Q2
    have hbx2 := hbx
    clear okb
    have fHR0 := fun d os => cell_regrown (cell_row HR0.out 0 _ rfl) d os
    have fHR1 := fun d os => cell_regrown (cell_row HR0.out 1 _ rfl) d os
    have fHR2 := fun d os => cell_regrown (cell_row HR0.out 2 _ rfl) d os
    have fHY0 := fun d os => cell_regrown (cell_row HY0.out 0 _ rfl) d os
    have fHY1 := fun d os => cell_regrown (cell_row HY0.out 1 _ rfl) d os
    have fHY2 := fun d os => cell_regrown (cell_row HY0.out 2 _ rfl) d os
    have fHY3 := fun d os => cell_regrown (cell_row HY0.out 3 _ rfl) d os
    have fHY4 := fun d os => cell_regrown (cell_row HY0.out 4 _ rfl) d os
    have fHY5 := fun d os => cell_regrown (cell_row HY0.out 5 _ rfl) d os
    refine wp_region_quiet_below (by kernel_rfl) (by kernel_rfl) ?_
    repeat (go_big_quiet_step (first | (with_reducible exact Q1.out _ _) | (with_reducible exact Q2.out _ _)))
    refine wpQuiet_nil ?_
    first | (rintro _ ⟨⟨dq, osq⟩, rfl⟩) | (rintro ⟨dq, osq⟩)
    have hb := below_regrown W dq osq
    obtain ⟨y1, hW⟩ : ∃ ww, ww = grow (redrawn W dq) osq := ⟨_, rfl⟩
    rw [← hW] at hb ⊢
    clear hW
    have HR1 := Lib.hid (vec_step HR0.out hb)
    have HY1 := Lib.hid (vec_step HY0.out hb)
    have HZ1 := Lib.hid (vec_step HZ0.out hb)
    have HB1 := Lib.hid (HB0.out.trans (hb.mono HB0.out.size))
    have HM1 := Lib.hid (HM0.out.below hb)
    clear HR0 HY0 HZ0 HB0 HM0 hb  fHR0 fHR1 fHR2 fHY0 fHY1 fHY2 fHY3 fHY4 fHY5
    go_wp2_with fail
    refine (none_any _).mono ?_
    rintro e y2 ⟨rfl, hb⟩
    have HR2 := Lib.hid (vec_step HR1.out hb)
    have HY2 := Lib.hid (vec_step HY1.out hb)
    have HZ2 := Lib.hid (vec_step HZ1.out hb)
    have HB2 := Lib.hid (HB1.out.trans (hb.mono HB1.out.size))
    have HM2 := Lib.hid (HM1.out.below hb)
    clear HR1 HY1 HZ1 HB1 HM1 hb  
    go_wp2_with (with_reducible refine store_hit rfl (.tmp 8) (.tmp 26) rfl rfl (w.heap.size + 1 + 1) 0 (-1) 0 0 rfl rfl _ HZ2.out rfl ?_)
    refine bodyPost_ret (results_row_tmp rfl _ _ _ (w.heap.size + 1 + 1) 38 _ _ _ rfl (setRow_heap _ _ _ _ _ _ HZ2.out) Try.underlying38 hit_size) rfl ?_
    exact ⟨rfl, below_setRow HB2.out (by omega) _⟩
  · rename_i near
    rw [hbn] at HRES
    simp only [Option.bind_some] at HRES
    go_enter Try.func35, Try.ntmps35
    go_upto_region 1 with (fail)
    rw [← HWW.out]
    clear HWW
    obtain ⟨⟨⟨p1, p2, p3⟩, ⟨p4, p5, p6⟩⟩, hbx⟩ : ∃ zz, zz = boxF m i := ⟨_, rfl⟩
    have okb := ok_box m HOK.out i
    rw [← hbx] at okb
    have Q1 := Lib.hid (qb (P := Try.prog) (W := W) (v := .agg #[.int .i64 p1, .int .i64 p2, .int .i64 p3, .int .i64 p4, .int .i64 p5, .int .i64 p6]) (fun w2 hb => by have := box_any _ m w2 (HM0.out.below hb) HOK.out HTB.out i HIN.out; rw [← hbx] at this; exact this))
    have Q2 := Lib.hid (qb (P := Try.prog) (W := W) (fun w2 hb => hbox_any ⟨⟨oX, oY, oZ⟩, ⟨dX, dY, dZ⟩⟩ ⟨⟨p1, p2, p3⟩, ⟨p4, p5, p6⟩⟩ HRK.out okb w2))
    have hbn2 := hbn
    rw [← hbx] at hbn2
    rw [hbn2] at Q2
    unfold boxR at Q2
    clear hbn2
    dsimp only [rayV, boxV, Option.getD_some, Option.getD_none, Option.isSome_some, Option.isSome_none] at Q2
    have hbx2 := hbx
    clear okb
    have fHR0 := fun d os => cell_regrown (cell_row HR0.out 0 _ rfl) d os
    have fHR1 := fun d os => cell_regrown (cell_row HR0.out 1 _ rfl) d os
    have fHR2 := fun d os => cell_regrown (cell_row HR0.out 2 _ rfl) d os
    have fHY0 := fun d os => cell_regrown (cell_row HY0.out 0 _ rfl) d os
    have fHY1 := fun d os => cell_regrown (cell_row HY0.out 1 _ rfl) d os
    have fHY2 := fun d os => cell_regrown (cell_row HY0.out 2 _ rfl) d os
    have fHY3 := fun d os => cell_regrown (cell_row HY0.out 3 _ rfl) d os
    have fHY4 := fun d os => cell_regrown (cell_row HY0.out 4 _ rfl) d os
    have fHY5 := fun d os => cell_regrown (cell_row HY0.out 5 _ rfl) d os
    refine wp_region_quiet_below (by kernel_rfl) (by kernel_rfl) ?_
    repeat (go_big_quiet_step (first | (with_reducible exact Q1.out _ _) | (with_reducible exact Q2.out _ _)))
    refine wpQuiet_nil ?_
    first | (rintro _ ⟨⟨dq, osq⟩, rfl⟩) | (rintro ⟨dq, osq⟩)
    have hb := below_regrown W dq osq
    obtain ⟨y3, hW⟩ : ∃ ww, ww = grow (redrawn W dq) osq := ⟨_, rfl⟩
    rw [← hW] at hb ⊢
    clear hW
    have HR1 := Lib.hid (vec_step HR0.out hb)
    have HY1 := Lib.hid (vec_step HY0.out hb)
    have HZ1 := Lib.hid (vec_step HZ0.out hb)
    have HB1 := Lib.hid (HB0.out.trans (hb.mono HB0.out.size))
    have HM1 := Lib.hid (HM0.out.below hb)
    clear HR0 HY0 HZ0 HB0 HM0 hb  fHR0 fHR1 fHR2 fHY0 fHY1 fHY2 fHY3 fHY4 fHY5
    clear Q1 Q2
    cases hbl : ballH ⟨⟨oX, oY, oZ⟩, ⟨dX, dY, dZ⟩⟩ ⟨⟨bX, bY, bZ⟩, br⟩
    · have hres : res = none := by rw [HRES.out, hbl]; rfl
      subst hres
      clear HRES
      go_upto_region 4 with (fail)
      have Q3 := Lib.hid (qb (P := Try.prog) (W := y3) (fun w2 hb => ball_any ⟨⟨oX, oY, oZ⟩, ⟨dX, dY, dZ⟩⟩ ⟨⟨bX, bY, bZ⟩, br⟩ HRK.out HBO.out.1 HBO.out.2 w2))
      rw [hbl] at Q3
      unfold ballR at Q3
      dsimp only [rayV, boxV, Option.getD_some, Option.getD_none, Option.isSome_some, Option.isSome_none] at Q3
      obtain ⟨b9, o9, e, -, u0, u1, u2, u3⟩ := at4 (HBS0_.out.below HB1.out (Nat.le_refl _)) j hj
      subst e
      rw [HBJ.out hj] at u0 u1 u2 u3
      dsimp only at u0 u1 u2 u3
      have fu0 := fun d os => cell_regrown u0 d os
      have fu1 := fun d os => cell_regrown u1 d os
      have fu2 := fun d os => cell_regrown u2 d os
      have fu3 := fun d os => cell_regrown u3 d os
      clear u0 u1 u2 u3
      have fHR0 := fun d os => cell_regrown (cell_row HR1.out 0 _ rfl) d os
      have fHR1 := fun d os => cell_regrown (cell_row HR1.out 1 _ rfl) d os
      have fHR2 := fun d os => cell_regrown (cell_row HR1.out 2 _ rfl) d os
      have fHY0 := fun d os => cell_regrown (cell_row HY1.out 0 _ rfl) d os
      have fHY1 := fun d os => cell_regrown (cell_row HY1.out 1 _ rfl) d os
      have fHY2 := fun d os => cell_regrown (cell_row HY1.out 2 _ rfl) d os
      have fHY3 := fun d os => cell_regrown (cell_row HY1.out 3 _ rfl) d os
      have fHY4 := fun d os => cell_regrown (cell_row HY1.out 4 _ rfl) d os
      have fHY5 := fun d os => cell_regrown (cell_row HY1.out 5 _ rfl) d os
      refine wp_region_quiet_below (by kernel_rfl) (by kernel_rfl) ?_
      repeat (go_big_quiet_step (first | (with_reducible exact Q3.out _ _)))
      refine wpQuiet_nil ?_
      first | (rintro _ ⟨⟨dq, osq⟩, rfl⟩) | (rintro ⟨dq, osq⟩)
      have hb := below_regrown y3 dq osq
      obtain ⟨y4, hW⟩ : ∃ ww, ww = grow (redrawn y3 dq) osq := ⟨_, rfl⟩
      rw [← hW] at hb ⊢
      clear hW
      have HR2 := Lib.hid (vec_step HR1.out hb)
      have HY2 := Lib.hid (vec_step HY1.out hb)
      have HZ2 := Lib.hid (vec_step HZ1.out hb)
      have HB2 := Lib.hid (HB1.out.trans (hb.mono HB1.out.size))
      have HM2 := Lib.hid (HM1.out.below hb)
      clear HR1 HY1 HZ1 HB1 HM1 hb  fHR0 fHR1 fHR2 fHY0 fHY1 fHY2 fHY3 fHY4 fHY5
      clear Q3 fu0 fu1 fu2 fu3
      go_wp2_with fail
      refine (none_any _).mono ?_
      rintro e y5 ⟨rfl, hb⟩
      have HR3 := Lib.hid (vec_step HR2.out hb)
      have HY3 := Lib.hid (vec_step HY2.out hb)
      have HZ3 := Lib.hid (vec_step HZ2.out hb)
      have HB3 := Lib.hid (HB2.out.trans (hb.mono HB2.out.size))
      have HM3 := Lib.hid (HM2.out.below hb)
      clear HR2 HY2 HZ2 HB2 HM2 hb  
      go_wp2_with (with_reducible refine store_hit rfl (.tmp 8) (.tmp 44) rfl rfl (w.heap.size + 1 + 1) 0 (-1) 0 0 rfl rfl _ HZ3.out rfl ?_)
      refine bodyPost_ret (results_row_tmp rfl _ _ _ (w.heap.size + 1 + 1) 38 _ _ _ rfl (setRow_heap _ _ _ _ _ _ HZ3.out) Try.underlying38 hit_size) rfl ?_
      exact ⟨rfl, below_setRow HB3.out (by omega) _⟩
    · rename_i pr
      obtain ⟨x, y⟩ := pr
      rw [hbl] at HRES
      simp only [Option.bind_some] at HRES
      go_upto_region 4 with (fail)
      have Q3 := Lib.hid (qb (P := Try.prog) (W := y3) (fun w2 hb => ball_any ⟨⟨oX, oY, oZ⟩, ⟨dX, dY, dZ⟩⟩ ⟨⟨bX, bY, bZ⟩, br⟩ HRK.out HBO.out.1 HBO.out.2 w2))
      rw [hbl] at Q3
      unfold ballR at Q3
      dsimp only [rayV, boxV, Option.getD_some, Option.getD_none, Option.isSome_some, Option.isSome_none] at Q3
      obtain ⟨b9, o9, e, -, u0, u1, u2, u3⟩ := at4 (HBS0_.out.below HB1.out (Nat.le_refl _)) j hj
      subst e
      rw [HBJ.out hj] at u0 u1 u2 u3
      dsimp only at u0 u1 u2 u3
      have fu0 := fun d os => cell_regrown u0 d os
      have fu1 := fun d os => cell_regrown u1 d os
      have fu2 := fun d os => cell_regrown u2 d os
      have fu3 := fun d os => cell_regrown u3 d os
      clear u0 u1 u2 u3
      have fHR0 := fun d os => cell_regrown (cell_row HR1.out 0 _ rfl) d os
      have fHR1 := fun d os => cell_regrown (cell_row HR1.out 1 _ rfl) d os
      have fHR2 := fun d os => cell_regrown (cell_row HR1.out 2 _ rfl) d os
      have fHY0 := fun d os => cell_regrown (cell_row HY1.out 0 _ rfl) d os
      have fHY1 := fun d os => cell_regrown (cell_row HY1.out 1 _ rfl) d os
      have fHY2 := fun d os => cell_regrown (cell_row HY1.out 2 _ rfl) d os
      have fHY3 := fun d os => cell_regrown (cell_row HY1.out 3 _ rfl) d os
      have fHY4 := fun d os => cell_regrown (cell_row HY1.out 4 _ rfl) d os
      have fHY5 := fun d os => cell_regrown (cell_row HY1.out 5 _ rfl) d os
      refine wp_region_quiet_below (by kernel_rfl) (by kernel_rfl) ?_
      repeat (go_big_quiet_step (first | (with_reducible exact Q3.out _ _)))
      refine wpQuiet_nil ?_
      first | (rintro _ ⟨⟨dq, osq⟩, rfl⟩) | (rintro ⟨dq, osq⟩)
      have hb := below_regrown y3 dq osq
      obtain ⟨y6, hW⟩ : ∃ ww, ww = grow (redrawn y3 dq) osq := ⟨_, rfl⟩
      rw [← hW] at hb ⊢
      clear hW
      have HR2 := Lib.hid (vec_step HR1.out hb)
      have HY2 := Lib.hid (vec_step HY1.out hb)
      have HZ2 := Lib.hid (vec_step HZ1.out hb)
      have HB2 := Lib.hid (HB1.out.trans (hb.mono HB1.out.size))
      have HM2 := Lib.hid (HM1.out.below hb)
      clear HR1 HY1 HZ1 HB1 HM1 hb  fHR0 fHR1 fHR2 fHY0 fHY1 fHY2 fHY3 fHY4 fHY5
      clear Q3 fu0 fu1 fu2 fu3
      obtain ⟨mx, hmx⟩ : ∃ zz, zz = maxI x near := ⟨_, rfl⟩
      obtain ⟨my, hmy⟩ : ∃ zz, zz = maxI y near := ⟨_, rfl⟩
      have MX := max2_at hmx
      have MY := max2_at hmy
      have HPK : Hid (res = if 0 ≤ x ∧ least ≤ mx then some ⟨mx, i, 0, 0⟩ else if 0 ≤ y ∧ least ≤ my then some ⟨my, i, 0, 0⟩ else none) := Lib.hid (by rw [HRES.out, hmx, hmy]; rfl)
      clear HRES hmx hmy
      have i0 := idx2_0
      have i1 := idx2_1
      go_wp2_with fail
      go_loopg [48] 2 (fun r n9 wr => ∃ k : Int, 0 ≤ k ∧ k + (r : Int) = 2 ∧ n9 = .int .i64 k ∧ Hid (Below y6.heap.size y6 wr ∧ (0 < k → ¬ (0 ≤ x ∧ least ≤ mx)) ∧ (1 < k → ¬ (0 ≤ y ∧ least ≤ my))))
      case atStart => exact ⟨0, by omega, by omega, rfl, Lib.hid ⟨Below.refl _ _, by omega, by omega⟩⟩
      case round =>
        obtain ⟨k, hk0, hkr, rfl, hin⟩ := hrel
        have hb := hin.out.1
        have HR3 := Lib.hid (vec_step HR2.out hb)
        have HY3 := Lib.hid (vec_step HY2.out hb)
        have HZ3 := Lib.hid (vec_step HZ2.out hb)
        have HB3 := Lib.hid (HB2.out.trans (hb.mono HB2.out.size))
        have HM3 := Lib.hid (HM2.out.below hb)
        clear HR2 HY2 HZ2 HB2 HM2 hb  
        have HKR := Lib.hid hkr
        clear hkr
        rcases (show k = 0 ∨ k = 1 ∨ k = 2 by have := HKR.out; omega) with rfl | rfl | rfl
        · by_cases h1 : x < 0
          · have d2 : decide (x < 0) = true := decide_eq_true h1
            go_wp2_with fail
            go_roundg 1
            case measure => have := HKR.out; omega
            case rel => exact ⟨1, by omega, by omega, rfl, Lib.hid ⟨hin.out.1, fun _ => fun h => by omega, by omega⟩⟩
          · have d2 : decide (x < 0) = false := decide_eq_false h1
            by_cases h2 : least ≤ mx
            · have d3 : decide (least ≤ mx) = true := decide_eq_true h2
              have hres : res = some ⟨mx, i, 0, 0⟩ := by rw [HPK.out, if_pos ⟨by omega, h2⟩]
              subst hres
              go_wp2_with (with_reducible refine store_hit rfl (.tmp 8) (.tmp 61) rfl rfl (w.heap.size + 1 + 1) mx i 0 0 rfl rfl _ HZ3.out rfl ?_)
              refine bodyPost_ret (results_row_tmp rfl _ _ _ (w.heap.size + 1 + 1) 38 _ _ _ rfl (setRow_heap _ _ _ _ _ _ HZ3.out) Try.underlying38 hit_size) rfl ?_
              exact ⟨rfl, below_setRow HB3.out (by omega) _⟩
            · have d3 : decide (least ≤ mx) = false := decide_eq_false h2
              go_wp2_with fail
              go_roundg 1
              case measure => have := HKR.out; omega
              case rel => exact ⟨1, by omega, by omega, rfl, Lib.hid ⟨hin.out.1, fun _ => fun h => by have := h.2; omega, by omega⟩⟩
        · by_cases h1 : y < 0
          · have d2 : decide (y < 0) = true := decide_eq_true h1
            go_wp2_with fail
            go_roundg 0
            case measure => have := HKR.out; omega
            case rel => exact ⟨2, by omega, by omega, rfl, Lib.hid ⟨hin.out.1, fun _ => hin.out.2.1 (by omega), fun _ => fun h => by omega⟩⟩
          · have d2 : decide (y < 0) = false := decide_eq_false h1
            by_cases h2 : least ≤ my
            · have d3 : decide (least ≤ my) = true := decide_eq_true h2
              have hres : res = some ⟨my, i, 0, 0⟩ := by rw [HPK.out, if_neg (hin.out.2.1 (by omega)), if_pos ⟨by omega, h2⟩]
              subst hres
              go_wp2_with (with_reducible refine store_hit rfl (.tmp 8) (.tmp 61) rfl rfl (w.heap.size + 1 + 1) my i 0 0 rfl rfl _ HZ3.out rfl ?_)
              refine bodyPost_ret (results_row_tmp rfl _ _ _ (w.heap.size + 1 + 1) 38 _ _ _ rfl (setRow_heap _ _ _ _ _ _ HZ3.out) Try.underlying38 hit_size) rfl ?_
              exact ⟨rfl, below_setRow HB3.out (by omega) _⟩
            · have d3 : decide (least ≤ my) = false := decide_eq_false h2
              go_wp2_with fail
              go_roundg 0
              case measure => have := HKR.out; omega
              case rel => exact ⟨2, by omega, by omega, rfl, Lib.hid ⟨hin.out.1, fun _ => hin.out.2.1 (by omega), fun _ => fun h => by have := h.2; omega⟩⟩
        · have hres : res = none := by rw [HPK.out, if_neg (hin.out.2.1 (by omega)), if_neg (hin.out.2.2 (by omega))]
          subst hres
          go_wp2_with fail
          refine (none_any _).mono ?_
          rintro e y7 ⟨rfl, hb⟩
          have HR4 := Lib.hid (vec_step HR3.out hb)
          have HY4 := Lib.hid (vec_step HY3.out hb)
          have HZ4 := Lib.hid (vec_step HZ3.out hb)
          have HB4 := Lib.hid (HB3.out.trans (hb.mono HB3.out.size))
          have HM4 := Lib.hid (HM3.out.below hb)
          clear HR3 HY3 HZ3 HB3 HM3 hb  
          go_wp2_with (with_reducible refine store_hit rfl (.tmp 8) (.tmp 63) rfl rfl (w.heap.size + 1 + 1) 0 (-1) 0 0 rfl rfl _ HZ4.out rfl ?_)
          refine bodyPost_ret (results_row_tmp rfl _ _ _ (w.heap.size + 1 + 1) 38 _ _ _ rfl (setRow_heap _ _ _ _ _ _ HZ4.out) Try.underlying38 hit_size) rfl ?_
          exact ⟨rfl, below_setRow HB4.out (by omega) _⟩

set_option maxRecDepth 100000 in
set_option maxHeartbeats 16000000 in
theorem shape_any (v : Value) (m : Msh) (w : World) (hm : IsMesh w v m) (ok : m.ok) (hl : m.ts.length + m.bs.length ≤ 9223372036854775807) (i : Int) (hi : In i) (r : Ry) (hr : r.ok) (least : Int) : Calls Try.prog 15 #[v, .int .i64 i, rayV r, .int .i64 least] w (VTo (shapeR (shapeF m i r least)) w) := by
  have CBS := Lib.hid (fun w2 (hb : Below w.heap.size w w2) (j : Nat) (hj : j < m.bs.length) (hij : i = (m.ts.length : Int) + (j : Int)) => ballShape_any v m w2 (hm.below hb) ok hl j hj i hij hi r hr least)
  have CCN := Lib.hid (fun w2 (hb : Below w.heap.size w w2) => count_any v m w2 (hm.below hb) hl)
  have CCO := Lib.hid (fun w2 (hb : Below w.heap.size w w2) => corners_any v m w2 (hm.below hb) i)
  obtain ⟨a0, c0, a1, c1, a2, c2, rfl, h0, h1, h2, l0, l1, l2⟩ := hm.open_
  have HOK := Lib.hid ok
  have HRK := Lib.hid hr
  have HTB := Lib.hid hl
  have HIN := Lib.hid hi
  have HM0_ := Lib.hid hm
  have HBS0_ := Lib.hid h2
  obtain ⟨⟨oX, oY, oZ⟩, ⟨dX, dY, dZ⟩⟩ := r
  dsimp only [rayV] at *
  obtain ⟨hA, hB_, hC, hB0⟩ := al3h w (.cells #[.slice a0 m.ps.length c0, .slice a1 m.ts.length c1, .slice a2 m.bs.length c2] 31) (.cells #[.int .i64 oX, .int .i64 oY, .int .i64 oZ, .int .i64 dX, .int .i64 dY, .int .i64 dZ] 25) (.cells #[.int .i64 0, .int .i64 0, .int .i64 0, .int .i64 0] 38)
  obtain ⟨W, hW⟩ : ∃ ww, ww = ((w.alloc (.cells #[.slice a0 m.ps.length c0, .slice a1 m.ts.length c1, .slice a2 m.bs.length c2] 31)).alloc (.cells #[.int .i64 oX, .int .i64 oY, .int .i64 oZ, .int .i64 dX, .int .i64 dY, .int .i64 dZ] 25)).alloc (.cells #[.int .i64 0, .int .i64 0, .int .i64 0, .int .i64 0] 38) := ⟨_, rfl⟩
  rw [← hW] at hA hB_ hC hB0
  have HR0 := Lib.hid hA
  have HY0 := Lib.hid hB_
  have HZ0 := Lib.hid hC
  have HB0 := Lib.hid hB0
  have HM0 := Lib.hid (HM0_.out.below hB0)
  have HWW := Lib.hid hW
  clear hA hB_ hC hB0 hW hm h0 h1 h2 HM0_ l0 l1 l2 ok hr
  obtain ⟨N, hN⟩ : ∃ zz : Int, zz = ((m.ts.length + m.bs.length : Nat) : Int) := ⟨_, rfl⟩
  rw [← hN] at CCN
  have HN : N = (m.ts.length : Int) + (m.bs.length : Int) := by rw [hN]; omega
  clear hN
  obtain ⟨res, hres⟩ : ∃ zz, zz = shapeF m i ⟨⟨oX, oY, oZ⟩, ⟨dX, dY, dZ⟩⟩ least := ⟨_, rfl⟩
  rw [← hres]
  unfold shapeF at hres
  by_cases h0 : i < 0
  · have d0 : decide (i < 0) = true := decide_eq_true h0
    have hr0 : res = none := by rw [hres, if_pos (.inl h0)]
    subst hr0
    clear hres h0
    go_enter Try.func15, Try.ntmps15
    go_upto_region 1 with (fail)
    rw [← HWW.out]
    clear HWW
    go_wp2_with fail
    refine (none_any _).mono ?_
    rintro e y8 ⟨rfl, hb⟩
    have HR1 := Lib.hid (vec_step HR0.out hb)
    have HY1 := Lib.hid (vec_step HY0.out hb)
    have HZ1 := Lib.hid (vec_step HZ0.out hb)
    have HB1 := Lib.hid (HB0.out.trans (hb.mono HB0.out.size))
    have HM1 := Lib.hid (HM0.out.below hb)
    clear HR0 HY0 HZ0 HB0 HM0 hb  
    go_wp2_with (with_reducible refine store_hit rfl (.tmp 8) (.tmp 24) rfl rfl (w.heap.size + 1 + 1) 0 (-1) 0 0 rfl rfl _ HZ1.out rfl ?_)
    refine bodyPost_ret (results_row_tmp rfl _ _ _ (w.heap.size + 1 + 1) 38 _ _ _ rfl (setRow_heap _ _ _ _ _ _ HZ1.out) Try.underlying38 hit_size) rfl ?_
    exact ⟨rfl, below_setRow HB1.out (by omega) _⟩
  have d0 : decide (i < 0) = false := decide_eq_false h0
  by_cases h1 : N ≤ i
  · have d1 : decide (N ≤ i) = true := decide_eq_true h1
    have hr0 : res = none := by rw [hres, if_pos (.inr (by omega))]
    subst hr0
    clear hres h1 h0 HN
    go_enter Try.func15, Try.ntmps15
    go_upto_region 1 with (fail)
    rw [← HWW.out]
    clear HWW
    have cHR0 := cell_row HR0.out 0 _ rfl
    have cHR1 := cell_row HR0.out 1 _ rfl
    have cHR2 := cell_row HR0.out 2 _ rfl
    go_wp2_with fail
    refine (CCN.out _ HB0.out).mono ?_
    rintro e y9 ⟨rfl, hb⟩
    have HR1 := Lib.hid (vec_step HR0.out hb)
    have HY1 := Lib.hid (vec_step HY0.out hb)
    have HZ1 := Lib.hid (vec_step HZ0.out hb)
    have HB1 := Lib.hid (HB0.out.trans (hb.mono HB0.out.size))
    have HM1 := Lib.hid (HM0.out.below hb)
    clear HR0 HY0 HZ0 HB0 HM0 hb cHR0 cHR1 cHR2 
    go_wp2_with fail
    refine (none_any _).mono ?_
    rintro e y10 ⟨rfl, hb⟩
    have HR2 := Lib.hid (vec_step HR1.out hb)
    have HY2 := Lib.hid (vec_step HY1.out hb)
    have HZ2 := Lib.hid (vec_step HZ1.out hb)
    have HB2 := Lib.hid (HB1.out.trans (hb.mono HB1.out.size))
    have HM2 := Lib.hid (HM1.out.below hb)
    clear HR1 HY1 HZ1 HB1 HM1 hb  
    go_wp2_with (with_reducible refine store_hit rfl (.tmp 8) (.tmp 24) rfl rfl (w.heap.size + 1 + 1) 0 (-1) 0 0 rfl rfl _ HZ2.out rfl ?_)
    refine bodyPost_ret (results_row_tmp rfl _ _ _ (w.heap.size + 1 + 1) 38 _ _ _ rfl (setRow_heap _ _ _ _ _ _ HZ2.out) Try.underlying38 hit_size) rfl ?_
    exact ⟨rfl, below_setRow HB2.out (by omega) _⟩
  have d1 : decide (N ≤ i) = false := decide_eq_false h1
  rw [if_neg (by omega)] at hres
  by_cases h2 : (m.ts.length : Int) ≤ i
  · have d2 : decide ((m.ts.length : Int) ≤ i) = true := decide_eq_true h2
    rw [if_pos h2] at hres
    obtain ⟨j, hj⟩ : ∃ j : Nat, (j : Int) = i - (m.ts.length : Int) := ⟨(i - (m.ts.length : Int)).toNat, by omega⟩
    have CB2 : Hid (∀ w2, Below w.heap.size w w2 → Calls Try.prog 35 #[.agg #[.slice a0 m.ps.length c0, .slice a1 m.ts.length c1, .slice a2 m.bs.length c2], .int .i64 i, .agg #[.int .i64 oX, .int .i64 oY, .int .i64 oZ, .int .i64 dX, .int .i64 dY, .int .i64 dZ], .int .i64 least] w2 (VTo (shapeR res) w2)) := Lib.hid (fun w2 hb => by rw [hres]; exact CBS.out w2 hb j (by omega) (by omega))
    clear hres h0 h1 h2 hj HN CBS
    obtain ⟨⟨rt, ri, ru, rv⟩, hgd⟩ : ∃ zz, zz = res.getD htN := ⟨_, rfl⟩
    obtain ⟨ro, hro⟩ : ∃ zz, zz = res.isSome := ⟨_, rfl⟩
    unfold shapeR at CB2 ⊢
    rw [← hgd, ← hro] at CB2 ⊢
    dsimp only [hitV] at CB2 ⊢
    clear hgd hro
    go_enter Try.func15, Try.ntmps15
    go_upto_region 1 with (fail)
    rw [← HWW.out]
    clear HWW
    have cHR0 := cell_row HR0.out 0 _ rfl
    have cHR1 := cell_row HR0.out 1 _ rfl
    have cHR2 := cell_row HR0.out 2 _ rfl
    go_wp2_with fail
    refine (CCN.out _ HB0.out).mono ?_
    rintro e y11 ⟨rfl, hb⟩
    have HR1 := Lib.hid (vec_step HR0.out hb)
    have HY1 := Lib.hid (vec_step HY0.out hb)
    have HZ1 := Lib.hid (vec_step HZ0.out hb)
    have HB1 := Lib.hid (HB0.out.trans (hb.mono HB0.out.size))
    have HM1 := Lib.hid (HM0.out.below hb)
    clear HR0 HY0 HZ0 HB0 HM0 hb cHR0 cHR1 cHR2 
    have cHR0 := cell_row HR1.out 0 _ rfl
    have cHR1 := cell_row HR1.out 1 _ rfl
    have cHR2 := cell_row HR1.out 2 _ rfl
    have cHY0 := cell_row HY1.out 0 _ rfl
    have cHY1 := cell_row HY1.out 1 _ rfl
    have cHY2 := cell_row HY1.out 2 _ rfl
    have cHY3 := cell_row HY1.out 3 _ rfl
    have cHY4 := cell_row HY1.out 4 _ rfl
    have cHY5 := cell_row HY1.out 5 _ rfl
    go_wp2_with fail
    refine (CB2.out _ HB1.out).mono ?_
    rintro e y12 ⟨rfl, hb⟩
    have HR2 := Lib.hid (vec_step HR1.out hb)
    have HY2 := Lib.hid (vec_step HY1.out hb)
    have HZ2 := Lib.hid (vec_step HZ1.out hb)
    have HB2 := Lib.hid (HB1.out.trans (hb.mono HB1.out.size))
    have HM2 := Lib.hid (HM1.out.below hb)
    clear HR1 HY1 HZ1 HB1 HM1 hb cHR0 cHR1 cHR2 cHY0 cHY1 cHY2 cHY3 cHY4 cHY5 
    go_wp2_with (with_reducible refine store_hit rfl (.tmp 8) (.tmp 35) rfl rfl (w.heap.size + 1 + 1) rt ri ru rv rfl rfl _ HZ2.out rfl ?_)
    refine bodyPost_ret (results_row_tmp rfl _ _ _ (w.heap.size + 1 + 1) 38 _ _ _ rfl (setRow_heap _ _ _ _ _ _ HZ2.out) Try.underlying38 hit_size) rfl ?_
    exact ⟨rfl, below_setRow HB2.out (by omega) _⟩
  · have d2 : decide ((m.ts.length : Int) ≤ i) = false := decide_eq_false h2
    rw [if_neg h2] at hres
    unfold triShapeF at hres
    clear CBS h0 h1 h2 HN
    cases hco : cornersF m i
    · have hr0 : res = none := by rw [hres, hco]; rfl
      subst hr0
      clear hres
      rw [hco] at CCO
      unfold cornersR at CCO
      dsimp only [vecV, Option.getD_some, Option.getD_none, Option.isSome_some, Option.isSome_none, v0] at CCO
      go_enter Try.func15, Try.ntmps15
      go_upto_region 1 with (fail)
      rw [← HWW.out]
      clear HWW
      have cHR0 := cell_row HR0.out 0 _ rfl
      have cHR1 := cell_row HR0.out 1 _ rfl
      have cHR2 := cell_row HR0.out 2 _ rfl
      go_wp2_with fail
      refine (CCN.out _ HB0.out).mono ?_
      rintro e y13 ⟨rfl, hb⟩
      have HR1 := Lib.hid (vec_step HR0.out hb)
      have HY1 := Lib.hid (vec_step HY0.out hb)
      have HZ1 := Lib.hid (vec_step HZ0.out hb)
      have HB1 := Lib.hid (HB0.out.trans (hb.mono HB0.out.size))
      have HM1 := Lib.hid (HM0.out.below hb)
      clear HR0 HY0 HZ0 HB0 HM0 hb cHR0 cHR1 cHR2 
      have cHR0 := cell_row HR1.out 0 _ rfl
      have cHR1 := cell_row HR1.out 1 _ rfl
      have cHR2 := cell_row HR1.out 2 _ rfl
      go_wp2_with fail
      refine (CCO.out _ HB1.out).mono ?_
      rintro e y14 ⟨rfl, hb⟩
      have HR2 := Lib.hid (vec_step HR1.out hb)
      have HY2 := Lib.hid (vec_step HY1.out hb)
      have HZ2 := Lib.hid (vec_step HZ1.out hb)
      have HB2 := Lib.hid (HB1.out.trans (hb.mono HB1.out.size))
      have HM2 := Lib.hid (HM1.out.below hb)
      clear HR1 HY1 HZ1 HB1 HM1 hb cHR0 cHR1 cHR2 
      go_upto_region 6 with (fail)
      obtain ⟨ka, kb, kc, hx⟩ := al3h y14 (.cells #[.int .i64 0, .int .i64 0, .int .i64 0] 23) (.cells #[.int .i64 0, .int .i64 0, .int .i64 0] 23) (.cells #[.int .i64 0, .int .i64 0, .int .i64 0] 23)
      obtain ⟨y15, hW⟩ : ∃ ww, ww = ((y14.alloc (.cells #[.int .i64 0, .int .i64 0, .int .i64 0] 23)).alloc (.cells #[.int .i64 0, .int .i64 0, .int .i64 0] 23)).alloc (.cells #[.int .i64 0, .int .i64 0, .int .i64 0] 23) := ⟨_, rfl⟩
      rw [← hW] at ka kb kc hx ⊢
      clear hW
      have HR3 := Lib.hid (vec_step HR2.out hx)
      have HY3 := Lib.hid (vec_step HY2.out hx)
      have HZ3 := Lib.hid (vec_step HZ2.out hx)
      have HB3 := Lib.hid (HB2.out.trans (hx.mono HB2.out.size))
      have HM3 := Lib.hid (HM2.out.below hx)
      clear HR2 HY2 HZ2 HB2 HM2 hx  
      have HCA3 := Lib.hid (ka)
      have HCB3 := Lib.hid (kb)
      have HCC3 := Lib.hid (kc)
      clear ka kb kc
      go_wp2_with fail
      refine (none_any _).mono ?_
      rintro e y16 ⟨rfl, hb⟩
      have HR4 := Lib.hid (vec_step HR3.out hb)
      have HY4 := Lib.hid (vec_step HY3.out hb)
      have HZ4 := Lib.hid (vec_step HZ3.out hb)
      have HB4 := Lib.hid (HB3.out.trans (hb.mono HB3.out.size))
      have HM4 := Lib.hid (HM3.out.below hb)
      have HCA4 := Lib.hid (vec_step HCA3.out hb)
      have HCB4 := Lib.hid (vec_step HCB3.out hb)
      have HCC4 := Lib.hid (vec_step HCC3.out hb)
      clear HR3 HY3 HZ3 HB3 HM3 HCA3 HCB3 HCC3 hb  
      go_wp2_with (with_reducible refine store_hit rfl (.tmp 8) (.tmp 47) rfl rfl (w.heap.size + 1 + 1) 0 (-1) 0 0 rfl rfl _ HZ4.out rfl ?_)
      refine bodyPost_ret (results_row_tmp rfl _ _ _ (w.heap.size + 1 + 1) 38 _ _ _ rfl (setRow_heap _ _ _ _ _ _ HZ4.out) Try.underlying38 hit_size) rfl ?_
      exact ⟨rfl, below_setRow HB4.out (by omega) _⟩
    · rename_i co
      obtain ⟨⟨paX, paY, paZ⟩, ⟨pbX, pbY, pbZ⟩, ⟨pcX, pcY, pcZ⟩⟩ := co
      have oks := ok_corners m HOK.out i hco
      have HCK := Lib.hid oks
      clear oks
      rw [hco] at hres
      simp only [Option.bind_some] at hres
      have HRES := Lib.hid hres
      clear hres
      rw [hco] at CCO
      unfold cornersR at CCO
      dsimp only [vecV, Option.getD_some, Option.getD_none, Option.isSome_some, Option.isSome_none, v0] at CCO
      clear hco
      cases hbn : boxH ⟨⟨oX, oY, oZ⟩, ⟨dX, dY, dZ⟩⟩ (boxF m i)
      · have hr0 : res = none := by rw [HRES.out, hbn]; rfl
        subst hr0
        clear HRES
        go_enter Try.func15, Try.ntmps15
        go_upto_region 1 with (fail)
        rw [← HWW.out]
        clear HWW
        have cHR0 := cell_row HR0.out 0 _ rfl
        have cHR1 := cell_row HR0.out 1 _ rfl
        have cHR2 := cell_row HR0.out 2 _ rfl
        go_wp2_with fail
        refine (CCN.out _ HB0.out).mono ?_
        rintro e y17 ⟨rfl, hb⟩
        have HR1 := Lib.hid (vec_step HR0.out hb)
        have HY1 := Lib.hid (vec_step HY0.out hb)
        have HZ1 := Lib.hid (vec_step HZ0.out hb)
        have HB1 := Lib.hid (HB0.out.trans (hb.mono HB0.out.size))
        have HM1 := Lib.hid (HM0.out.below hb)
        clear HR0 HY0 HZ0 HB0 HM0 hb cHR0 cHR1 cHR2 
        have cHR0 := cell_row HR1.out 0 _ rfl
        have cHR1 := cell_row HR1.out 1 _ rfl
        have cHR2 := cell_row HR1.out 2 _ rfl
        go_wp2_with fail
        refine (CCO.out _ HB1.out).mono ?_
        rintro e y18 ⟨rfl, hb⟩
        have HR2 := Lib.hid (vec_step HR1.out hb)
        have HY2 := Lib.hid (vec_step HY1.out hb)
        have HZ2 := Lib.hid (vec_step HZ1.out hb)
        have HB2 := Lib.hid (HB1.out.trans (hb.mono HB1.out.size))
        have HM2 := Lib.hid (HM1.out.below hb)
        clear HR1 HY1 HZ1 HB1 HM1 hb cHR0 cHR1 cHR2 
        go_upto_region 6 with (fail)
        obtain ⟨ka, kb, kc, hx⟩ := al3h y18 (.cells #[.int .i64 paX, .int .i64 paY, .int .i64 paZ] 23) (.cells #[.int .i64 pbX, .int .i64 pbY, .int .i64 pbZ] 23) (.cells #[.int .i64 pcX, .int .i64 pcY, .int .i64 pcZ] 23)
        obtain ⟨y19, hW⟩ : ∃ ww, ww = ((y18.alloc (.cells #[.int .i64 paX, .int .i64 paY, .int .i64 paZ] 23)).alloc (.cells #[.int .i64 pbX, .int .i64 pbY, .int .i64 pbZ] 23)).alloc (.cells #[.int .i64 pcX, .int .i64 pcY, .int .i64 pcZ] 23) := ⟨_, rfl⟩
        rw [← hW] at ka kb kc hx ⊢
        clear hW
        have HR3 := Lib.hid (vec_step HR2.out hx)
        have HY3 := Lib.hid (vec_step HY2.out hx)
        have HZ3 := Lib.hid (vec_step HZ2.out hx)
        have HB3 := Lib.hid (HB2.out.trans (hx.mono HB2.out.size))
        have HM3 := Lib.hid (HM2.out.below hx)
        clear HR2 HY2 HZ2 HB2 HM2 hx  
        have HCA3 := Lib.hid (ka)
        have HCB3 := Lib.hid (kb)
        have HCC3 := Lib.hid (kc)
        clear ka kb kc
        go_upto_region 8 with (fail)
        obtain ⟨⟨⟨p1, p2, p3⟩, ⟨p4, p5, p6⟩⟩, hbx⟩ : ∃ zz, zz = boxF m i := ⟨_, rfl⟩
        have okb := ok_box m HOK.out i
        rw [← hbx] at okb
        have Q1 := Lib.hid (qb (P := Try.prog) (W := y19) (v := .agg #[.int .i64 p1, .int .i64 p2, .int .i64 p3, .int .i64 p4, .int .i64 p5, .int .i64 p6]) (fun w2 hb => by have := box_any _ m w2 (HM3.out.below hb) HOK.out HTB.out i HIN.out; rw [← hbx] at this; exact this))
        have Q2 := Lib.hid (qb (P := Try.prog) (W := y19) (fun w2 hb => hbox_any ⟨⟨oX, oY, oZ⟩, ⟨dX, dY, dZ⟩⟩ ⟨⟨p1, p2, p3⟩, ⟨p4, p5, p6⟩⟩ HRK.out okb w2))
        have hbn2 := hbn
        rw [← hbx] at hbn2
        rw [hbn2] at Q2
        unfold boxR at Q2
        clear hbn2
        dsimp only [rayV, boxV, Option.getD_some, Option.getD_none, Option.isSome_some, Option.isSome_none] at Q2
        have hbx2 := hbx
        clear okb
        have fHR0 := fun d os => cell_regrown (cell_row HR3.out 0 _ rfl) d os
        have fHR1 := fun d os => cell_regrown (cell_row HR3.out 1 _ rfl) d os
        have fHR2 := fun d os => cell_regrown (cell_row HR3.out 2 _ rfl) d os
        have fHY0 := fun d os => cell_regrown (cell_row HY3.out 0 _ rfl) d os
        have fHY1 := fun d os => cell_regrown (cell_row HY3.out 1 _ rfl) d os
        have fHY2 := fun d os => cell_regrown (cell_row HY3.out 2 _ rfl) d os
        have fHY3 := fun d os => cell_regrown (cell_row HY3.out 3 _ rfl) d os
        have fHY4 := fun d os => cell_regrown (cell_row HY3.out 4 _ rfl) d os
        have fHY5 := fun d os => cell_regrown (cell_row HY3.out 5 _ rfl) d os
        refine wp_region_quiet_below (by kernel_rfl) (by kernel_rfl) ?_
        repeat (go_big_quiet_step (first | (with_reducible exact Q1.out _ _) | (with_reducible exact Q2.out _ _)))
        refine wpQuiet_nil ?_
        first | (rintro _ ⟨⟨dq, osq⟩, rfl⟩) | (rintro ⟨dq, osq⟩)
        have hb := below_regrown y19 dq osq
        obtain ⟨y20, hW⟩ : ∃ ww, ww = grow (redrawn y19 dq) osq := ⟨_, rfl⟩
        rw [← hW] at hb ⊢
        clear hW
        have HR4 := Lib.hid (vec_step HR3.out hb)
        have HY4 := Lib.hid (vec_step HY3.out hb)
        have HZ4 := Lib.hid (vec_step HZ3.out hb)
        have HB4 := Lib.hid (HB3.out.trans (hb.mono HB3.out.size))
        have HM4 := Lib.hid (HM3.out.below hb)
        have HCA4 := Lib.hid (vec_step HCA3.out hb)
        have HCB4 := Lib.hid (vec_step HCB3.out hb)
        have HCC4 := Lib.hid (vec_step HCC3.out hb)
        clear HR3 HY3 HZ3 HB3 HM3 HCA3 HCB3 HCC3 hb  fHR0 fHR1 fHR2 fHY0 fHY1 fHY2 fHY3 fHY4 fHY5
        clear Q1 Q2
        go_wp2_with fail
        refine (none_any _).mono ?_
        rintro e y21 ⟨rfl, hb⟩
        have HR5 := Lib.hid (vec_step HR4.out hb)
        have HY5 := Lib.hid (vec_step HY4.out hb)
        have HZ5 := Lib.hid (vec_step HZ4.out hb)
        have HB5 := Lib.hid (HB4.out.trans (hb.mono HB4.out.size))
        have HM5 := Lib.hid (HM4.out.below hb)
        have HCA5 := Lib.hid (vec_step HCA4.out hb)
        have HCB5 := Lib.hid (vec_step HCB4.out hb)
        have HCC5 := Lib.hid (vec_step HCC4.out hb)
        clear HR4 HY4 HZ4 HB4 HM4 HCA4 HCB4 HCC4 hb  
        go_wp2_with (with_reducible refine store_hit rfl (.tmp 8) (.tmp 58) rfl rfl (w.heap.size + 1 + 1) 0 (-1) 0 0 rfl rfl _ HZ5.out rfl ?_)
        refine bodyPost_ret (results_row_tmp rfl _ _ _ (w.heap.size + 1 + 1) 38 _ _ _ rfl (setRow_heap _ _ _ _ _ _ HZ5.out) Try.underlying38 hit_size) rfl ?_
        exact ⟨rfl, below_setRow HB5.out (by omega) _⟩
      · rename_i near
        rw [hbn] at HRES
        simp only [Option.bind_some] at HRES
        go_enter Try.func15, Try.ntmps15
        go_upto_region 1 with (fail)
        rw [← HWW.out]
        clear HWW
        have cHR0 := cell_row HR0.out 0 _ rfl
        have cHR1 := cell_row HR0.out 1 _ rfl
        have cHR2 := cell_row HR0.out 2 _ rfl
        go_wp2_with fail
        refine (CCN.out _ HB0.out).mono ?_
        rintro e y22 ⟨rfl, hb⟩
        have HR1 := Lib.hid (vec_step HR0.out hb)
        have HY1 := Lib.hid (vec_step HY0.out hb)
        have HZ1 := Lib.hid (vec_step HZ0.out hb)
        have HB1 := Lib.hid (HB0.out.trans (hb.mono HB0.out.size))
        have HM1 := Lib.hid (HM0.out.below hb)
        clear HR0 HY0 HZ0 HB0 HM0 hb cHR0 cHR1 cHR2 
        have cHR0 := cell_row HR1.out 0 _ rfl
        have cHR1 := cell_row HR1.out 1 _ rfl
        have cHR2 := cell_row HR1.out 2 _ rfl
        go_wp2_with fail
        refine (CCO.out _ HB1.out).mono ?_
        rintro e y23 ⟨rfl, hb⟩
        have HR2 := Lib.hid (vec_step HR1.out hb)
        have HY2 := Lib.hid (vec_step HY1.out hb)
        have HZ2 := Lib.hid (vec_step HZ1.out hb)
        have HB2 := Lib.hid (HB1.out.trans (hb.mono HB1.out.size))
        have HM2 := Lib.hid (HM1.out.below hb)
        clear HR1 HY1 HZ1 HB1 HM1 hb cHR0 cHR1 cHR2 
        go_upto_region 6 with (fail)
        obtain ⟨ka, kb, kc, hx⟩ := al3h y23 (.cells #[.int .i64 paX, .int .i64 paY, .int .i64 paZ] 23) (.cells #[.int .i64 pbX, .int .i64 pbY, .int .i64 pbZ] 23) (.cells #[.int .i64 pcX, .int .i64 pcY, .int .i64 pcZ] 23)
        obtain ⟨y24, hW⟩ : ∃ ww, ww = ((y23.alloc (.cells #[.int .i64 paX, .int .i64 paY, .int .i64 paZ] 23)).alloc (.cells #[.int .i64 pbX, .int .i64 pbY, .int .i64 pbZ] 23)).alloc (.cells #[.int .i64 pcX, .int .i64 pcY, .int .i64 pcZ] 23) := ⟨_, rfl⟩
        rw [← hW] at ka kb kc hx ⊢
        clear hW
        have HR3 := Lib.hid (vec_step HR2.out hx)
        have HY3 := Lib.hid (vec_step HY2.out hx)
        have HZ3 := Lib.hid (vec_step HZ2.out hx)
        have HB3 := Lib.hid (HB2.out.trans (hx.mono HB2.out.size))
        have HM3 := Lib.hid (HM2.out.below hx)
        clear HR2 HY2 HZ2 HB2 HM2 hx  
        have HCA3 := Lib.hid (ka)
        have HCB3 := Lib.hid (kb)
        have HCC3 := Lib.hid (kc)
        clear ka kb kc
        go_upto_region 8 with (fail)
        obtain ⟨⟨⟨p1, p2, p3⟩, ⟨p4, p5, p6⟩⟩, hbx⟩ : ∃ zz, zz = boxF m i := ⟨_, rfl⟩
        have okb := ok_box m HOK.out i
        rw [← hbx] at okb
        have Q1 := Lib.hid (qb (P := Try.prog) (W := y24) (v := .agg #[.int .i64 p1, .int .i64 p2, .int .i64 p3, .int .i64 p4, .int .i64 p5, .int .i64 p6]) (fun w2 hb => by have := box_any _ m w2 (HM3.out.below hb) HOK.out HTB.out i HIN.out; rw [← hbx] at this; exact this))
        have Q2 := Lib.hid (qb (P := Try.prog) (W := y24) (fun w2 hb => hbox_any ⟨⟨oX, oY, oZ⟩, ⟨dX, dY, dZ⟩⟩ ⟨⟨p1, p2, p3⟩, ⟨p4, p5, p6⟩⟩ HRK.out okb w2))
        have hbn2 := hbn
        rw [← hbx] at hbn2
        rw [hbn2] at Q2
        unfold boxR at Q2
        clear hbn2
        dsimp only [rayV, boxV, Option.getD_some, Option.getD_none, Option.isSome_some, Option.isSome_none] at Q2
        have hbx2 := hbx
        clear okb
        have fHR0 := fun d os => cell_regrown (cell_row HR3.out 0 _ rfl) d os
        have fHR1 := fun d os => cell_regrown (cell_row HR3.out 1 _ rfl) d os
        have fHR2 := fun d os => cell_regrown (cell_row HR3.out 2 _ rfl) d os
        have fHY0 := fun d os => cell_regrown (cell_row HY3.out 0 _ rfl) d os
        have fHY1 := fun d os => cell_regrown (cell_row HY3.out 1 _ rfl) d os
        have fHY2 := fun d os => cell_regrown (cell_row HY3.out 2 _ rfl) d os
        have fHY3 := fun d os => cell_regrown (cell_row HY3.out 3 _ rfl) d os
        have fHY4 := fun d os => cell_regrown (cell_row HY3.out 4 _ rfl) d os
        have fHY5 := fun d os => cell_regrown (cell_row HY3.out 5 _ rfl) d os
        refine wp_region_quiet_below (by kernel_rfl) (by kernel_rfl) ?_
        repeat (go_big_quiet_step (first | (with_reducible exact Q1.out _ _) | (with_reducible exact Q2.out _ _)))
        refine wpQuiet_nil ?_
        first | (rintro _ ⟨⟨dq, osq⟩, rfl⟩) | (rintro ⟨dq, osq⟩)
        have hb := below_regrown y24 dq osq
        obtain ⟨y25, hW⟩ : ∃ ww, ww = grow (redrawn y24 dq) osq := ⟨_, rfl⟩
        rw [← hW] at hb ⊢
        clear hW
        have HR4 := Lib.hid (vec_step HR3.out hb)
        have HY4 := Lib.hid (vec_step HY3.out hb)
        have HZ4 := Lib.hid (vec_step HZ3.out hb)
        have HB4 := Lib.hid (HB3.out.trans (hb.mono HB3.out.size))
        have HM4 := Lib.hid (HM3.out.below hb)
        have HCA4 := Lib.hid (vec_step HCA3.out hb)
        have HCB4 := Lib.hid (vec_step HCB3.out hb)
        have HCC4 := Lib.hid (vec_step HCC3.out hb)
        clear HR3 HY3 HZ3 HB3 HM3 HCA3 HCB3 HCC3 hb  fHR0 fHR1 fHR2 fHY0 fHY1 fHY2 fHY3 fHY4 fHY5
        clear Q1 Q2
        cases htr : triH ⟨⟨oX, oY, oZ⟩, ⟨dX, dY, dZ⟩⟩ ⟨paX, paY, paZ⟩ ⟨pbX, pbY, pbZ⟩ ⟨pcX, pcY, pcZ⟩
        · have hr0 : res = none := by rw [HRES.out, htr]; rfl
          subst hr0
          clear HRES
          have CTR := Lib.hid (fun w2 => tri_any ⟨⟨oX, oY, oZ⟩, ⟨dX, dY, dZ⟩⟩ ⟨paX, paY, paZ⟩ ⟨pbX, pbY, pbZ⟩ ⟨pcX, pcY, pcZ⟩ HRK.out HCK.out.1 HCK.out.2.1 HCK.out.2.2 w2)
          rw [htr] at CTR
          unfold triR at CTR
          dsimp only [rayV, vecV, hitV, ht0, Option.getD_some, Option.getD_none, Option.isSome_some, Option.isSome_none] at CTR
          have cHY0 := cell_row HY4.out 0 _ rfl
          have cHY1 := cell_row HY4.out 1 _ rfl
          have cHY2 := cell_row HY4.out 2 _ rfl
          have cHY3 := cell_row HY4.out 3 _ rfl
          have cHY4 := cell_row HY4.out 4 _ rfl
          have cHY5 := cell_row HY4.out 5 _ rfl
          have cHCA0 := cell_row HCA4.out 0 _ rfl
          have cHCA1 := cell_row HCA4.out 1 _ rfl
          have cHCA2 := cell_row HCA4.out 2 _ rfl
          have cHCB0 := cell_row HCB4.out 0 _ rfl
          have cHCB1 := cell_row HCB4.out 1 _ rfl
          have cHCB2 := cell_row HCB4.out 2 _ rfl
          have cHCC0 := cell_row HCC4.out 0 _ rfl
          have cHCC1 := cell_row HCC4.out 1 _ rfl
          have cHCC2 := cell_row HCC4.out 2 _ rfl
          go_wp2_with fail
          refine (CTR.out _).mono ?_
          rintro e y26 ⟨rfl, hb⟩
          have HR5 := Lib.hid (vec_step HR4.out hb)
          have HY5 := Lib.hid (vec_step HY4.out hb)
          have HZ5 := Lib.hid (vec_step HZ4.out hb)
          have HB5 := Lib.hid (HB4.out.trans (hb.mono HB4.out.size))
          have HM5 := Lib.hid (HM4.out.below hb)
          have HCA5 := Lib.hid (vec_step HCA4.out hb)
          have HCB5 := Lib.hid (vec_step HCB4.out hb)
          have HCC5 := Lib.hid (vec_step HCC4.out hb)
          clear HR4 HY4 HZ4 HB4 HM4 HCA4 HCB4 HCC4 hb cHY0 cHY1 cHY2 cHY3 cHY4 cHY5 cHCA0 cHCA1 cHCA2 cHCB0 cHCB1 cHCB2 cHCC0 cHCC1 cHCC2 
          go_upto_region 12 with (fail)
          have hx := ext_alloc y26 (.cells #[.int .i64 0, .int .i64 0, .int .i64 0, .int .i64 0] 38)
          have hn := heap_alloc_new y26 (.cells #[.int .i64 0, .int .i64 0, .int .i64 0, .int .i64 0] 38)
          obtain ⟨y27, hW⟩ : ∃ ww, ww = y26.alloc (.cells #[.int .i64 0, .int .i64 0, .int .i64 0, .int .i64 0] 38) := ⟨_, rfl⟩
          rw [← hW] at hx hn ⊢
          clear hW
          have HR6 := Lib.hid (vec_step HR5.out hx)
          have HY6 := Lib.hid (vec_step HY5.out hx)
          have HZ6 := Lib.hid (vec_step HZ5.out hx)
          have HB6 := Lib.hid (HB5.out.trans (hx.mono HB5.out.size))
          have HM6 := Lib.hid (HM5.out.below hx)
          have HCA6 := Lib.hid (vec_step HCA5.out hx)
          have HCB6 := Lib.hid (vec_step HCB5.out hx)
          have HCC6 := Lib.hid (vec_step HCC5.out hx)
          clear HR5 HY5 HZ5 HB5 HM5 HCA5 HCB5 HCC5 hx  
          have HH6 := Lib.hid (hn)
          clear hn
          generalize y26.heap.size = gHH at HH6 ⊢
          go_wp2_with fail
          refine (none_any _).mono ?_
          rintro e y28 ⟨rfl, hb⟩
          have HR7 := Lib.hid (vec_step HR6.out hb)
          have HY7 := Lib.hid (vec_step HY6.out hb)
          have HZ7 := Lib.hid (vec_step HZ6.out hb)
          have HB7 := Lib.hid (HB6.out.trans (hb.mono HB6.out.size))
          have HM7 := Lib.hid (HM6.out.below hb)
          have HCA7 := Lib.hid (vec_step HCA6.out hb)
          have HCB7 := Lib.hid (vec_step HCB6.out hb)
          have HCC7 := Lib.hid (vec_step HCC6.out hb)
          have HH7 := Lib.hid (vec_step HH6.out hb)
          clear HR6 HY6 HZ6 HB6 HM6 HCA6 HCB6 HCC6 HH6 hb  
          go_wp2_with (with_reducible refine store_hit rfl (.tmp 8) (.tmp 69) rfl rfl (w.heap.size + 1 + 1) 0 (-1) 0 0 rfl rfl _ HZ7.out rfl ?_)
          refine bodyPost_ret (results_row_tmp rfl _ _ _ (w.heap.size + 1 + 1) 38 _ _ _ rfl (setRow_heap _ _ _ _ _ _ HZ7.out) Try.underlying38 hit_size) rfl ?_
          exact ⟨rfl, below_setRow HB7.out (by omega) _⟩
        · rename_i hh
          obtain ⟨ht, hi_, hu, hv⟩ := hh
          rw [htr] at HRES
          simp only [Option.bind_some] at HRES
          have CTR := Lib.hid (fun w2 => tri_any ⟨⟨oX, oY, oZ⟩, ⟨dX, dY, dZ⟩⟩ ⟨paX, paY, paZ⟩ ⟨pbX, pbY, pbZ⟩ ⟨pcX, pcY, pcZ⟩ HRK.out HCK.out.1 HCK.out.2.1 HCK.out.2.2 w2)
          rw [htr] at CTR
          unfold triR at CTR
          dsimp only [rayV, vecV, hitV, ht0, Option.getD_some, Option.getD_none, Option.isSome_some, Option.isSome_none] at CTR
          have cHY0 := cell_row HY4.out 0 _ rfl
          have cHY1 := cell_row HY4.out 1 _ rfl
          have cHY2 := cell_row HY4.out 2 _ rfl
          have cHY3 := cell_row HY4.out 3 _ rfl
          have cHY4 := cell_row HY4.out 4 _ rfl
          have cHY5 := cell_row HY4.out 5 _ rfl
          have cHCA0 := cell_row HCA4.out 0 _ rfl
          have cHCA1 := cell_row HCA4.out 1 _ rfl
          have cHCA2 := cell_row HCA4.out 2 _ rfl
          have cHCB0 := cell_row HCB4.out 0 _ rfl
          have cHCB1 := cell_row HCB4.out 1 _ rfl
          have cHCB2 := cell_row HCB4.out 2 _ rfl
          have cHCC0 := cell_row HCC4.out 0 _ rfl
          have cHCC1 := cell_row HCC4.out 1 _ rfl
          have cHCC2 := cell_row HCC4.out 2 _ rfl
          go_wp2_with fail
          refine (CTR.out _).mono ?_
          rintro e y29 ⟨rfl, hb⟩
          have HR5 := Lib.hid (vec_step HR4.out hb)
          have HY5 := Lib.hid (vec_step HY4.out hb)
          have HZ5 := Lib.hid (vec_step HZ4.out hb)
          have HB5 := Lib.hid (HB4.out.trans (hb.mono HB4.out.size))
          have HM5 := Lib.hid (HM4.out.below hb)
          have HCA5 := Lib.hid (vec_step HCA4.out hb)
          have HCB5 := Lib.hid (vec_step HCB4.out hb)
          have HCC5 := Lib.hid (vec_step HCC4.out hb)
          clear HR4 HY4 HZ4 HB4 HM4 HCA4 HCB4 HCC4 hb cHY0 cHY1 cHY2 cHY3 cHY4 cHY5 cHCA0 cHCA1 cHCA2 cHCB0 cHCB1 cHCB2 cHCC0 cHCC1 cHCC2 
          go_upto_region 12 with (fail)
          have HGE := Lib.hid (Base.lt_of_heap HZ5.out)
          have hx := ext_alloc y29 (.cells #[.int .i64 ht, .int .i64 hi_, .int .i64 hu, .int .i64 hv] 38)
          have hn := heap_alloc_new y29 (.cells #[.int .i64 ht, .int .i64 hi_, .int .i64 hu, .int .i64 hv] 38)
          obtain ⟨y30, hW⟩ : ∃ ww, ww = y29.alloc (.cells #[.int .i64 ht, .int .i64 hi_, .int .i64 hu, .int .i64 hv] 38) := ⟨_, rfl⟩
          rw [← hW] at hx hn ⊢
          clear hW
          have HR6 := Lib.hid (vec_step HR5.out hx)
          have HY6 := Lib.hid (vec_step HY5.out hx)
          have HZ6 := Lib.hid (vec_step HZ5.out hx)
          have HB6 := Lib.hid (HB5.out.trans (hx.mono HB5.out.size))
          have HM6 := Lib.hid (HM5.out.below hx)
          have HCA6 := Lib.hid (vec_step HCA5.out hx)
          have HCB6 := Lib.hid (vec_step HCB5.out hx)
          have HCC6 := Lib.hid (vec_step HCC5.out hx)
          clear HR5 HY5 HZ5 HB5 HM5 HCA5 HCB5 HCC5 hx  
          have HH6 := Lib.hid (hn)
          clear hn
          generalize y29.heap.size = gHH at HH6 HGE ⊢
          obtain ⟨mx, hmx⟩ : ∃ zz, zz = maxI ht near := ⟨_, rfl⟩
          have MX := max2_at hmx
          have HPK : Hid (res = if mx < least then none else some ⟨mx, i, hu, hv⟩) := Lib.hid (by rw [HRES.out, hmx])
          clear HRES hmx
          by_cases h3 : mx < least
          · have d3 : decide (mx < least) = true := decide_eq_true h3
            have hr0 : res = none := by rw [HPK.out, if_pos h3]
            subst hr0
            clear HPK
            have q0 := cell_row HH6.out 0 (.int .i64 ht) rfl
            have t0 := frozen_of_row _ _ 0 _ _ HH6.out
            go_upto_region 15 with (fail)
            have HZ_ := Lib.hid ((heap_setCell_other y30 ⟨gHH, 0, none⟩ _ (.int .i64 mx) (show w.heap.size + 1 + 1 ≠ gHH by have := HGE.out; omega)).trans HZ6.out)
            have HH_ := Lib.hid (show (y30.setCell ⟨gHH, 0, none⟩ (.int .i64 mx)).heap[gHH]? = some (.cells #[.int .i64 mx, .int .i64 hi_, .int .i64 hu, .int .i64 hv] 38) from heap_setCell_same _ _ _ _ _ _ HH6.out)
            have HB_ := Lib.hid (setCell_below HB6.out (show w.heap.size ≤ gHH by have := HGE.out; omega) (.int .i64 mx) (j := 0))
            obtain ⟨W8, hW8⟩ : ∃ ww, ww = y30.setCell ⟨gHH, 0, none⟩ (.int .i64 mx) := ⟨_, rfl⟩
            rw [← hW8] at HZ_ HH_ HB_ ⊢
            clear hW8 q0 t0 HR6 HY6 HZ6 HB6 HM6 HCA6 HCB6 HCC6 HH6
            have q0 := cell_row HH_.out 0 (.int .i64 mx) rfl
            have HZ90 := HZ_
            have HB90 := HB_
            clear HZ_ HB_
            go_wp2_with fail
            clear q0 HH_
            refine (none_any _).mono ?_
            rintro e y31 ⟨rfl, hb⟩
            have HZ91 := Lib.hid (vec_step HZ90.out hb)
            have HB91 := Lib.hid (HB90.out.trans (hb.mono HB90.out.size))
            clear HZ90 HB90 hb  
            go_wp2_with (with_reducible refine store_hit rfl (.tmp 8) (.tmp 79) rfl rfl (w.heap.size + 1 + 1) 0 (-1) 0 0 rfl rfl _ HZ91.out rfl ?_)
            refine bodyPost_ret (results_row_tmp rfl _ _ _ (w.heap.size + 1 + 1) 38 _ _ _ rfl (setRow_heap _ _ _ _ _ _ HZ91.out) Try.underlying38 hit_size) rfl ?_
            exact ⟨rfl, below_setRow HB91.out (by omega) _⟩
          · have d3 : decide (mx < least) = false := decide_eq_false h3
            have hr0 : res = some ⟨mx, i, hu, hv⟩ := by rw [HPK.out, if_neg h3]
            subst hr0
            clear HPK
            have q0 := cell_row HH6.out 0 (.int .i64 ht) rfl
            have t0 := frozen_of_row _ _ 0 _ _ HH6.out
            go_upto_region 15 with (fail)
            have HZ_ := Lib.hid ((heap_setCell_other y30 ⟨gHH, 0, none⟩ _ (.int .i64 mx) (show w.heap.size + 1 + 1 ≠ gHH by have := HGE.out; omega)).trans HZ6.out)
            have HH_ := Lib.hid (show (y30.setCell ⟨gHH, 0, none⟩ (.int .i64 mx)).heap[gHH]? = some (.cells #[.int .i64 mx, .int .i64 hi_, .int .i64 hu, .int .i64 hv] 38) from heap_setCell_same _ _ _ _ _ _ HH6.out)
            have HB_ := Lib.hid (setCell_below HB6.out (show w.heap.size ≤ gHH by have := HGE.out; omega) (.int .i64 mx) (j := 0))
            obtain ⟨W8, hW8⟩ : ∃ ww, ww = y30.setCell ⟨gHH, 0, none⟩ (.int .i64 mx) := ⟨_, rfl⟩
            rw [← hW8] at HZ_ HH_ HB_ ⊢
            clear hW8 q0 t0 HR6 HY6 HZ6 HB6 HM6 HCA6 HCB6 HCC6 HH6
            have q0 := cell_row HH_.out 0 (.int .i64 mx) rfl
            have q1 := cell_row HH_.out 1 (.int .i64 hi_) rfl
            have t1 := frozen_of_row _ _ 1 _ _ HH_.out
            go_upto_region 18 with (fail)
            have HZ91 := Lib.hid ((heap_setCell_other W8 ⟨gHH, 1, none⟩ _ (.int .i64 i) (show w.heap.size + 1 + 1 ≠ gHH by have := HGE.out; omega)).trans HZ_.out)
            have HI_ := Lib.hid (show (W8.setCell ⟨gHH, 1, none⟩ (.int .i64 i)).heap[gHH]? = some (.cells #[.int .i64 mx, .int .i64 i, .int .i64 hu, .int .i64 hv] 38) from heap_setCell_same _ _ _ _ _ _ HH_.out)
            have HB91 := Lib.hid (setCell_below HB_.out (show w.heap.size ≤ gHH by have := HGE.out; omega) (.int .i64 i) (j := 1))
            obtain ⟨W9, hW9⟩ : ∃ ww, ww = W8.setCell ⟨gHH, 1, none⟩ (.int .i64 i) := ⟨_, rfl⟩
            rw [← hW9] at HZ91 HI_ HB91 ⊢
            clear hW9 q0 q1 t1 HZ_ HH_ HB_
            have q0 := cell_row HI_.out 0 _ rfl
            have q1 := cell_row HI_.out 1 _ rfl
            have q2 := cell_row HI_.out 2 _ rfl
            have q3 := cell_row HI_.out 3 _ rfl
            go_wp2_with (with_reducible refine store_hit rfl (.tmp 8) (.tmp 82) rfl rfl (w.heap.size + 1 + 1) mx i hu hv rfl rfl _ HZ91.out rfl ?_)
            refine bodyPost_ret (results_row_tmp rfl _ _ _ (w.heap.size + 1 + 1) 38 _ _ _ rfl (setRow_heap _ _ _ _ _ _ HZ91.out) Try.underlying38 hit_size) rfl ?_
            exact ⟨rfl, below_setRow HB91.out (by omega) _⟩

end Go.Proofs.Ytdaokkgenfpmhaa.HitS
