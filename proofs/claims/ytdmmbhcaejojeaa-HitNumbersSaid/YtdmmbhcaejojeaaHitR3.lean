/- The walk of ref13 Shape. -/
import Derived.Test.YtdmmbhcaejojeaaHitR2
set_option linter.unusedVariables false
set_option linter.unusedSimpArgs false
namespace Go.Proofs.Ytdmmbhcaejojeaa.HitR3
open Go.RowKit Go.Sort FixM Base Num FixW Qb Qt Qa Qf Qg VecW VecV VecU LightQ LightC MeshM Rec MeshA MeshB MeshC MeshD MeshE MeshP MeshR HitM HitT HitB HitX HitN HitC HitS HitR HitR2
theorem alloc_hitR (w : World) : (Instr.alloc 33 true (.tuple #[])).run Try.prog w = .ok (.pointer (some ⟨w.heap.size, 0, none⟩)) (w.alloc (.cells #[.int .i64 0, .int .i64 0, .int .i64 0, .int .i64 0] 33)) := by kernel_rfl
theorem row_one4 (a b c d : Int) : (#[Value.int .i64 a, .int .i64 b, .int .i64 c, .int .i64 d] : Array Value).all (·.oneCell') = true := by
  rw [Array.all_eq_true']; intro v hv; simp at hv; rcases hv with rfl | rfl | rfl | rfl <;> rfl
theorem there_not {m : Msh} {i : Int} {r : Ry} {least : Int} (h : thereF m i = false) : shapeF m i r least = none := by
  unfold thereF at h
  unfold shapeF
  split at h
  · rename_i h1; rw [if_pos h1]
  · rename_i h1
    rw [if_neg h1]
    split at h
    · rename_i h2
      rw [if_neg (by omega)]
      unfold triShapeF cornersF
      rw [if_neg (by omega), if_neg (by rw [h]; exact Bool.false_ne_true)]; rfl
    · cases h
theorem there_is {m : Msh} {i : Int} {r : Ry} {least : Int} (h : thereF m i = true) : shapeF m i r least = (boxH r (boxF m i)).bind (fun near => if i < (m.ts.length : Int) then (triH r (ptF m (m.ts.getD i.toNat v0).x) (ptF m (m.ts.getD i.toNat v0).y) (ptF m (m.ts.getD i.toNat v0).z)).bind (fun h => if maxI h.t near < least then none else some ⟨maxI h.t near, i, h.u, h.v⟩) else (ballH r (ballAt m i)).bind (fun p => pickF i near least p.1 p.2)) := by
  unfold thereF at h
  unfold shapeF
  split at h
  · cases h
  · rename_i h1
    rw [if_neg h1]
    split at h
    · rename_i h2
      rw [if_neg (by omega)]
      unfold triShapeF cornersF
      rw [if_neg (by omega), if_pos h, Option.bind_some]
      simp only [if_pos h2]
    · rename_i h2
      rw [if_pos (by omega)]
      unfold ballShapeF
      simp only [if_neg h2]
theorem there_tri {m : Msh} {i : Int} (h : thereF m i = true) (h2 : i < (m.ts.length : Int)) : ∃ (j x y z : Nat) (hj : j < m.ts.length) (hx : x < m.ps.length) (hy : y < m.ps.length) (hz : z < m.ps.length), i = (j : Int) ∧ m.ts[j] = ⟨(x : Int), (y : Int), (z : Int)⟩ ∧ m.ts.getD i.toNat v0 = ⟨(x : Int), (y : Int), (z : Int)⟩ ∧ ptF m (x : Int) = m.ps[x] ∧ ptF m (y : Int) = m.ps[y] ∧ ptF m (z : Int) = m.ps[z] := by
  unfold thereF at h
  split at h
  · cases h
  · rename_i h1
    obtain ⟨j, rfl⟩ := Int.eq_ofNat_of_zero_le (show 0 ≤ i by omega)
    have hj : j < m.ts.length := by omega
    have hg : m.ts.getD ((j : Int)).toNat v0 = m.ts[j] := by simp [hj]
    rw [hg] at h ⊢
    cases ht : m.ts[j] with
    | mk x y z =>
      rw [ht] at h
      simp only [hasF, placeI, Bool.and_eq_true, decide_eq_true_eq] at h
      obtain ⟨x, rfl⟩ := Int.eq_ofNat_of_zero_le h.1.1.1
      obtain ⟨y, rfl⟩ := Int.eq_ofNat_of_zero_le h.1.2.1
      obtain ⟨z, rfl⟩ := Int.eq_ofNat_of_zero_le h.2.1
      have hx : x < m.ps.length := by omega
      have hy : y < m.ps.length := by omega
      have hz : z < m.ps.length := by omega
      exact ⟨j, x, y, z, hj, hx, hy, hz, rfl, ht, rfl, by simp [ptF, hx], by simp [ptF, hy], by simp [ptF, hz]⟩
theorem there_ball {m : Msh} {i : Int} (h : thereF m i = true) (h2 : ¬ i < (m.ts.length : Int)) : ∃ (j : Nat) (hj : j < m.bs.length), i = (m.ts.length : Int) + (j : Int) ∧ ballAt m i = m.bs[j] := by
  unfold thereF at h
  split at h
  · cases h
  · rename_i h1
    obtain ⟨j, hj⟩ : ∃ j : Nat, (j : Int) = i - (m.ts.length : Int) := ⟨(i - (m.ts.length : Int)).toNat, by omega⟩
    have hl : j < m.bs.length := by omega
    exact ⟨j, hl, by omega, by unfold ballAt; rw [← hj]; simp [hl]⟩
set_option maxRecDepth 100000 in
set_option maxHeartbeats 16000000 in
theorem rshape_any (v : Value) (m : Msh) (w : World) (hm : IsMesh w v m) (ok : m.ok) (hl : m.ts.length + m.bs.length ≤ 9223372036854775807) (i : Int) (hi : In i) (r : Ry) (hr : r.ok) (least : Int) : Calls Try.prog 22 #[v, .int .i64 i, rayV r, .int .i64 least] w (VTo (shapeR (shapeF m i r least)) w) := by
  have CTH := Lib.hid (fun w2 (hb : Below w.heap.size w w2) => rthere_any v m w2 (hm.below hb) hl i hi)
  obtain ⟨a0, c0, a1, c1, a2, c2, rfl, h0, h1, h2, l0, l1, l2⟩ := hm.open_
  have HOK := Lib.hid ok
  have HRK := Lib.hid hr
  have HTB := Lib.hid hl
  have HIN := Lib.hid hi
  have HM0_ := Lib.hid hm
  have HPS0_ := Lib.hid h0
  have HTS0_ := Lib.hid h1
  have HBS0_ := Lib.hid h2
  have RS := Lib.hid (fun near => raised_any near)
  obtain ⟨⟨oX, oY, oZ⟩, ⟨dX, dY, dZ⟩⟩ := r
  dsimp only [rayV] at *
  obtain ⟨hA, hB_, hC, hD, hB0⟩ := al4 w (.cells #[.slice a0 m.ps.length c0, .slice a1 m.ts.length c1, .slice a2 m.bs.length c2] 44) (.cells #[.int .i64 oX, .int .i64 oY, .int .i64 oZ, .int .i64 dX, .int .i64 dY, .int .i64 dZ] 25) (.cells #[.int .i64 0, .int .i64 0, .int .i64 0, .int .i64 0] 33) (.cells #[.int .i64 0, .int .i64 (-1), .int .i64 0, .int .i64 0] 33)
  obtain ⟨W, hW⟩ : ∃ ww, ww = (((w.alloc (.cells #[.slice a0 m.ps.length c0, .slice a1 m.ts.length c1, .slice a2 m.bs.length c2] 44)).alloc (.cells #[.int .i64 oX, .int .i64 oY, .int .i64 oZ, .int .i64 dX, .int .i64 dY, .int .i64 dZ] 25)).alloc (.cells #[.int .i64 0, .int .i64 0, .int .i64 0, .int .i64 0] 33)).alloc (.cells #[.int .i64 0, .int .i64 (-1), .int .i64 0, .int .i64 0] 33) := ⟨_, rfl⟩
  rw [← hW] at hA hB_ hC hD hB0
  have HR0 := Lib.hid hA
  have HY0 := Lib.hid hB_
  have HZ0 := Lib.hid hC
  have HN0 := Lib.hid hD
  have HB0 := Lib.hid hB0
  have HM0 := Lib.hid (HM0_.out.below hB0)
  have HWW := Lib.hid hW
  clear hA hB_ hC hD hB0 hW hm h0 h1 h2 HM0_ l0 l1 l2 ok hr
  obtain ⟨res, hres⟩ : ∃ zz, zz = shapeF m i ⟨⟨oX, oY, oZ⟩, ⟨dX, dY, dZ⟩⟩ least := ⟨_, rfl⟩
  rw [← hres]
  cases hth : thereF m i
  · have hr0 : res = none := by rw [hres, there_not hth]
    subst hr0
    clear hres
    rw [hth] at CTH
    clear hth
    go_enter Try.func22, Try.ntmps22
    go_upto_region 2 with (fail)
    rw [← HWW.out]
    clear HWW
    have cHR0 := cell_row HR0.out 0 _ rfl
    have cHR1 := cell_row HR0.out 1 _ rfl
    have cHR2 := cell_row HR0.out 2 _ rfl
    go_wp2_with fail
    refine (CTH.out _ HB0.out).mono ?_
    rintro e y1 ⟨rfl, hb⟩
    have HR1 := Lib.hid (vec_step HR0.out hb)
    have HY1 := Lib.hid (vec_step HY0.out hb)
    have HZ1 := Lib.hid (vec_step HZ0.out hb)
    have HN1 := Lib.hid (vec_step HN0.out hb)
    have HB1 := Lib.hid (HB0.out.trans (hb.mono HB0.out.size))
    have HM1 := Lib.hid (HM0.out.below hb)
    clear HR0 HY0 HZ0 HN0 HB0 HM0 hb cHR0 cHR1 cHR2 CTH
    have cHN0 := cell_row HN1.out 0 _ rfl
    have cHN1 := cell_row HN1.out 1 _ rfl
    have cHN2 := cell_row HN1.out 2 _ rfl
    have cHN3 := cell_row HN1.out 3 _ rfl
    go_wp2_with (with_reducible refine store_hit rfl (.tmp 8) (.tmp 23) rfl rfl (w.heap.size + 1 + 1) 0 (-1) 0 0 rfl rfl _ HZ1.out rfl ?_)
    refine bodyPost_ret (results_row_tmp rfl _ _ _ (w.heap.size + 1 + 1) 33 _ _ _ rfl (setRow_heap _ _ _ _ _ _ HZ1.out) Try.underlying33 hit_size) rfl ?_
    exact ⟨rfl, below_setRow HB1.out (by omega) _⟩
  · have HTH := Lib.hid hth
    rw [there_is hth] at hres
    cases hbn : boxH ⟨⟨oX, oY, oZ⟩, ⟨dX, dY, dZ⟩⟩ (boxF m i)
    · have hr0 : res = none := by rw [hres, hbn]; rfl
      subst hr0
      clear hres
      rw [hth] at CTH
      clear hth
      go_enter Try.func22, Try.ntmps22
      go_upto_region 2 with (fail)
      rw [← HWW.out]
      clear HWW
      have cHR0 := cell_row HR0.out 0 _ rfl
      have cHR1 := cell_row HR0.out 1 _ rfl
      have cHR2 := cell_row HR0.out 2 _ rfl
      go_wp2_with fail
      refine (CTH.out _ HB0.out).mono ?_
      rintro e y2 ⟨rfl, hb⟩
      have HR1 := Lib.hid (vec_step HR0.out hb)
      have HY1 := Lib.hid (vec_step HY0.out hb)
      have HZ1 := Lib.hid (vec_step HZ0.out hb)
      have HN1 := Lib.hid (vec_step HN0.out hb)
      have HB1 := Lib.hid (HB0.out.trans (hb.mono HB0.out.size))
      have HM1 := Lib.hid (HM0.out.below hb)
      clear HR0 HY0 HZ0 HN0 HB0 HM0 hb cHR0 cHR1 cHR2 CTH
      go_upto_region 4 with (fail)
      obtain ⟨⟨⟨p1, p2, p3⟩, ⟨p4, p5, p6⟩⟩, hbx⟩ : ∃ zz, zz = boxF m i := ⟨_, rfl⟩
      have okb := ok_box m HOK.out i
      rw [← hbx] at okb
      have Q1 := Lib.hid (qb (P := Try.prog) (W := y2) (v := .agg #[.int .i64 p1, .int .i64 p2, .int .i64 p3, .int .i64 p4, .int .i64 p5, .int .i64 p6]) (fun w2 hb => by have := rbox_any _ m w2 (HM1.out.below hb) HOK.out HTB.out i HIN.out; rw [← hbx] at this; exact this))
      have Q2 := Lib.hid (qb (P := Try.prog) (W := y2) (fun w2 hb => rhbox_any ⟨⟨oX, oY, oZ⟩, ⟨dX, dY, dZ⟩⟩ ⟨⟨p1, p2, p3⟩, ⟨p4, p5, p6⟩⟩ HRK.out okb w2))
      have hbn2 := hbn
      rw [← hbx] at hbn2
      rw [hbn2] at Q2
      unfold boxR at Q2
      clear hbn2
      dsimp only [rayV, boxV, Option.getD_some, Option.getD_none, Option.isSome_some, Option.isSome_none] at Q2
      clear okb
      have fHR0 := fun d os => cell_regrown (cell_row HR1.out 0 _ rfl) d os
      have fHR1 := fun d os => cell_regrown (cell_row HR1.out 1 _ rfl) d os
      have fHR2 := fun d os => cell_regrown (cell_row HR1.out 2 _ rfl) d os
      have fHY0 := fun d os => cell_regrown (cell_row HY1.out 0 _ rfl) d os
      have fHY1 := fun d os => cell_regrown (cell_row HY1.out 1 _ rfl) d os
      have fHY2 := fun d os => cell_regrown (cell_row HY1.out 2 _ rfl) d os
      have fHY3 := fun d os => cell_regrown (cell_row HY1.out 3 _ rfl) d os
      have fHY4 := fun d os => cell_regrown (cell_row HY1.out 4 _ rfl) d os
      have fHY5 := fun d os => cell_regrown (cell_row HY1.out 5 _ rfl) d os
      refine wp_region_quiet_below (by kernel_rfl) (by kernel_rfl) ?_
      repeat (go_big_quiet_step (first | (with_reducible exact Q1.out _ _) | (with_reducible exact Q2.out _ _)))
      refine wpQuiet_nil ?_
      first | (rintro _ ⟨⟨dq, osq⟩, rfl⟩) | (rintro ⟨dq, osq⟩)
      have hb := below_regrown y2 dq osq
      obtain ⟨y3, hW⟩ : ∃ ww, ww = grow (redrawn y2 dq) osq := ⟨_, rfl⟩
      rw [← hW] at hb ⊢
      clear hW
      have HR2 := Lib.hid (vec_step HR1.out hb)
      have HY2 := Lib.hid (vec_step HY1.out hb)
      have HZ2 := Lib.hid (vec_step HZ1.out hb)
      have HN2 := Lib.hid (vec_step HN1.out hb)
      have HB2 := Lib.hid (HB1.out.trans (hb.mono HB1.out.size))
      have HM2 := Lib.hid (HM1.out.below hb)
      clear HR1 HY1 HZ1 HN1 HB1 HM1 hb  fHR0 fHR1 fHR2 fHY0 fHY1 fHY2 fHY3 fHY4 fHY5
      clear Q1 Q2
      have cHN0 := cell_row HN2.out 0 _ rfl
      have cHN1 := cell_row HN2.out 1 _ rfl
      have cHN2 := cell_row HN2.out 2 _ rfl
      have cHN3 := cell_row HN2.out 3 _ rfl
      go_wp2_with (with_reducible refine store_hit rfl (.tmp 8) (.tmp 34) rfl rfl (w.heap.size + 1 + 1) 0 (-1) 0 0 rfl rfl _ HZ2.out rfl ?_)
      refine bodyPost_ret (results_row_tmp rfl _ _ _ (w.heap.size + 1 + 1) 33 _ _ _ rfl (setRow_heap _ _ _ _ _ _ HZ2.out) Try.underlying33 hit_size) rfl ?_
      exact ⟨rfl, below_setRow HB2.out (by omega) _⟩
    · rename_i near
      rw [hbn, Option.bind_some] at hres
      by_cases h2 : i < (m.ts.length : Int)
      · obtain ⟨j, x, y, z, hj, hx, hy, hz, rfl, ht, hg, e1, e2, e3⟩ := there_tri hth h2
        simp only [if_pos h2] at hres
        rw [hg] at hres
        dsimp only at hres
        rw [e1, e2, e3] at hres
        clear hg e1 e2 e3
        have d2 : decide ((j : Int) < (m.ts.length : Int)) = true := decide_eq_true h2
        have dj : decide (j < m.ts.length) = true := decide_eq_true hj
        have HJ := Lib.hid ht
        clear ht h2
        obtain ⟨⟨paX, paY, paZ⟩, hpa⟩ : ∃ zz, zz = m.ps[x] := ⟨_, rfl⟩
        have okpa : (⟨paX, paY, paZ⟩ : V3).ok := by have := HOK.out.ps m.ps[x] (List.getElem_mem hx); rw [← hpa] at this; exact this
        obtain ⟨⟨pbX, pbY, pbZ⟩, hpb⟩ : ∃ zz, zz = m.ps[y] := ⟨_, rfl⟩
        have okpb : (⟨pbX, pbY, pbZ⟩ : V3).ok := by have := HOK.out.ps m.ps[y] (List.getElem_mem hy); rw [← hpb] at this; exact this
        obtain ⟨⟨pcX, pcY, pcZ⟩, hpc⟩ : ∃ zz, zz = m.ps[z] := ⟨_, rfl⟩
        have okpc : (⟨pcX, pcY, pcZ⟩ : V3).ok := by have := HOK.out.ps m.ps[z] (List.getElem_mem hz); rw [← hpc] at this; exact this
        rw [← hpa, ← hpb, ← hpc] at hres
        have HPpa := Lib.hid hpa
        have HPpb := Lib.hid hpb
        have HPpc := Lib.hid hpc
        have DX := Lib.hid hx
        have DY := Lib.hid hy
        have DZ := Lib.hid hz
        have CTR := Lib.hid (fun w2 => rtri_any ⟨⟨oX, oY, oZ⟩, ⟨dX, dY, dZ⟩⟩ ⟨paX, paY, paZ⟩ ⟨pbX, pbY, pbZ⟩ ⟨pcX, pcY, pcZ⟩ HRK.out okpa okpb okpc w2)
        obtain ⟨tr, htr⟩ : ∃ zz, zz = triH ⟨⟨oX, oY, oZ⟩, ⟨dX, dY, dZ⟩⟩ ⟨paX, paY, paZ⟩ ⟨pbX, pbY, pbZ⟩ ⟨pcX, pcY, pcZ⟩ := ⟨_, rfl⟩
        rw [← htr] at CTR hres
        unfold triR at CTR
        obtain ⟨⟨ht, hi_, hu, hv⟩, hgd⟩ : ∃ zz, zz = tr.getD ht0 := ⟨_, rfl⟩
        obtain ⟨tk, htk⟩ : ∃ zz, zz = tr.isSome := ⟨_, rfl⟩
        rw [← hgd, ← htk] at CTR
        dsimp only [rayV, vecV, hitV] at CTR
        obtain ⟨mx, hmx⟩ : ∃ zz, zz = maxI ht near := ⟨_, rfl⟩
        have HPK : Hid (res = if tk = true then (if mx < least then none else some ⟨mx, (j : Int), hu, hv⟩) else none) := Lib.hid (by rw [hres]; cases tr with | none => rw [htk]; rfl | some h => rw [htk, hmx]; simp only [Option.getD_some] at hgd; rw [← hgd]; rfl)
        have CRS : Hid (∀ w, Calls Try.prog 56 #[.int .i64 ht, .int .i64 near] w (fun e w' => e = .returned (.int .i64 mx) ∧ w = w')) := Lib.hid (fun w => by have := raised_any ht near w; rw [← hmx] at this; exact this)
        clear hres htr hgd htk hmx hpa hpb hpc okpa okpb okpc HTH
        rw [hth] at CTH
        clear hth
        go_enter Try.func22, Try.ntmps22
        go_upto_region 2 with (fail)
        rw [← HWW.out]
        clear HWW
        have cHR0 := cell_row HR0.out 0 _ rfl
        have cHR1 := cell_row HR0.out 1 _ rfl
        have cHR2 := cell_row HR0.out 2 _ rfl
        go_wp2_with fail
        refine (CTH.out _ HB0.out).mono ?_
        rintro e y4 ⟨rfl, hb⟩
        have HR1 := Lib.hid (vec_step HR0.out hb)
        have HY1 := Lib.hid (vec_step HY0.out hb)
        have HZ1 := Lib.hid (vec_step HZ0.out hb)
        have HN1 := Lib.hid (vec_step HN0.out hb)
        have HB1 := Lib.hid (HB0.out.trans (hb.mono HB0.out.size))
        have HM1 := Lib.hid (HM0.out.below hb)
        clear HR0 HY0 HZ0 HN0 HB0 HM0 hb cHR0 cHR1 cHR2 CTH
        go_upto_region 4 with (fail)
        obtain ⟨⟨⟨p1, p2, p3⟩, ⟨p4, p5, p6⟩⟩, hbx⟩ : ∃ zz, zz = boxF m (j : Int) := ⟨_, rfl⟩
        have okb := ok_box m HOK.out (j : Int)
        rw [← hbx] at okb
        have Q1 := Lib.hid (qb (P := Try.prog) (W := y4) (v := .agg #[.int .i64 p1, .int .i64 p2, .int .i64 p3, .int .i64 p4, .int .i64 p5, .int .i64 p6]) (fun w2 hb => by have := rbox_any _ m w2 (HM1.out.below hb) HOK.out HTB.out (j : Int) HIN.out; rw [← hbx] at this; exact this))
        have Q2 := Lib.hid (qb (P := Try.prog) (W := y4) (fun w2 hb => rhbox_any ⟨⟨oX, oY, oZ⟩, ⟨dX, dY, dZ⟩⟩ ⟨⟨p1, p2, p3⟩, ⟨p4, p5, p6⟩⟩ HRK.out okb w2))
        have hbn2 := hbn
        rw [← hbx] at hbn2
        rw [hbn2] at Q2
        unfold boxR at Q2
        clear hbn2
        dsimp only [rayV, boxV, Option.getD_some, Option.getD_none, Option.isSome_some, Option.isSome_none] at Q2
        clear okb
        have fHR0 := fun d os => cell_regrown (cell_row HR1.out 0 _ rfl) d os
        have fHR1 := fun d os => cell_regrown (cell_row HR1.out 1 _ rfl) d os
        have fHR2 := fun d os => cell_regrown (cell_row HR1.out 2 _ rfl) d os
        have fHY0 := fun d os => cell_regrown (cell_row HY1.out 0 _ rfl) d os
        have fHY1 := fun d os => cell_regrown (cell_row HY1.out 1 _ rfl) d os
        have fHY2 := fun d os => cell_regrown (cell_row HY1.out 2 _ rfl) d os
        have fHY3 := fun d os => cell_regrown (cell_row HY1.out 3 _ rfl) d os
        have fHY4 := fun d os => cell_regrown (cell_row HY1.out 4 _ rfl) d os
        have fHY5 := fun d os => cell_regrown (cell_row HY1.out 5 _ rfl) d os
        refine wp_region_quiet_below (by kernel_rfl) (by kernel_rfl) ?_
        repeat (go_big_quiet_step (first | (with_reducible exact Q1.out _ _) | (with_reducible exact Q2.out _ _)))
        refine wpQuiet_nil ?_
        first | (rintro _ ⟨⟨dq, osq⟩, rfl⟩) | (rintro ⟨dq, osq⟩)
        have hb := below_regrown y4 dq osq
        obtain ⟨y5, hW⟩ : ∃ ww, ww = grow (redrawn y4 dq) osq := ⟨_, rfl⟩
        rw [← hW] at hb ⊢
        clear hW
        have HR2 := Lib.hid (vec_step HR1.out hb)
        have HY2 := Lib.hid (vec_step HY1.out hb)
        have HZ2 := Lib.hid (vec_step HZ1.out hb)
        have HN2 := Lib.hid (vec_step HN1.out hb)
        have HB2 := Lib.hid (HB1.out.trans (hb.mono HB1.out.size))
        have HM2 := Lib.hid (HM1.out.below hb)
        clear HR1 HY1 HZ1 HN1 HB1 HM1 hb  fHR0 fHR1 fHR2 fHY0 fHY1 fHY2 fHY3 fHY4 fHY5
        clear Q1 Q2
        have cHR1 := cell_row HR2.out 1 _ rfl
        obtain ⟨b, off, e, hbl, p0_, p1_, p2_⟩ := at3 (HTS0_.out.below HB2.out (Nat.le_refl _)) j hj
        subst e
        rw [HJ.out] at p0_ p1_ p2_
        dsimp only at p0_ p1_ p2_
        clear hbl
        go_upto_region 9 with (fail)
        clear cHR1
        have hx := ext_alloc y5 (.cells #[.int .i64 (x : Int), .int .i64 (y : Int), .int .i64 (z : Int)] 46)
        have hn := heap_alloc_new y5 (.cells #[.int .i64 (x : Int), .int .i64 (y : Int), .int .i64 (z : Int)] 46)
        obtain ⟨y6, hW⟩ : ∃ ww, ww = y5.alloc (.cells #[.int .i64 (x : Int), .int .i64 (y : Int), .int .i64 (z : Int)] 46) := ⟨_, rfl⟩
        rw [← hW] at hx hn ⊢
        clear hW
        have HR3 := Lib.hid (vec_step HR2.out hx)
        have HY3 := Lib.hid (vec_step HY2.out hx)
        have HZ3 := Lib.hid (vec_step HZ2.out hx)
        have HN3 := Lib.hid (vec_step HN2.out hx)
        have HB3 := Lib.hid (HB2.out.trans (hx.mono HB2.out.size))
        have HM3 := Lib.hid (HM2.out.below hx)
        clear HR2 HY2 HZ2 HN2 HB2 HM2 hx  
        have HT3 := Lib.hid (hn)
        clear hn
        generalize y5.heap.size = gHT at HT3 ⊢
        clear p0_ p1_ p2_
        have K0 := Lib.hid (fun W9 (hb : Below y6.heap.size y6 W9) => cell_all (vec_step HR3.out hb) 0 _ rfl)
        have KT := Lib.hid (fun W9 (hb : Below y6.heap.size y6 W9) => cells3 (vec_step HT3.out hb))
        have KY := Lib.hid (fun W9 (hb : Below y6.heap.size y6 W9) => vec_step HY3.out hb)
        have hps4 := HPS0_.out.below HB3.out (Nat.le_refl _)
        obtain ⟨b4, off4, e4, hb4_, -, -, -⟩ := at3 hps4 x DX.out
        subst e4
        have HPS4 := Lib.hid hps4
        clear hps4 hb4_
        have Kpa : Hid (∀ W9, Below y6.heap.size y6 W9 → (∀ d os, (grow (redrawn W9 d) os).cell? ⟨b4, off4 + x * 3, none⟩ = some (.int .i64 paX)) ∧ (∀ d os, (grow (redrawn W9 d) os).cell? ⟨b4, off4 + x * 3 + 1, none⟩ = some (.int .i64 paY)) ∧ (∀ d os, (grow (redrawn W9 d) os).cell? ⟨b4, off4 + x * 3 + 2, none⟩ = some (.int .i64 paZ))) := by
          refine Lib.hid (fun W9 hb => ?_)
          obtain ⟨b5, off5, e5, _, q0, q1, q2⟩ := at3 (HPS4.out.below hb (Nat.le_refl _)) x DX.out
          simp only [Option.some.injEq, Addr.mk.injEq, and_true] at e5
          obtain ⟨rfl, rfl⟩ := e5
          rw [← HPpa.out] at q0 q1 q2
          exact ⟨fun d os => cell_regrown q0 d os, fun d os => cell_regrown q1 d os, fun d os => cell_regrown q2 d os⟩
        have Kpb : Hid (∀ W9, Below y6.heap.size y6 W9 → (∀ d os, (grow (redrawn W9 d) os).cell? ⟨b4, off4 + y * 3, none⟩ = some (.int .i64 pbX)) ∧ (∀ d os, (grow (redrawn W9 d) os).cell? ⟨b4, off4 + y * 3 + 1, none⟩ = some (.int .i64 pbY)) ∧ (∀ d os, (grow (redrawn W9 d) os).cell? ⟨b4, off4 + y * 3 + 2, none⟩ = some (.int .i64 pbZ))) := by
          refine Lib.hid (fun W9 hb => ?_)
          obtain ⟨b5, off5, e5, _, q0, q1, q2⟩ := at3 (HPS4.out.below hb (Nat.le_refl _)) y DY.out
          simp only [Option.some.injEq, Addr.mk.injEq, and_true] at e5
          obtain ⟨rfl, rfl⟩ := e5
          rw [← HPpb.out] at q0 q1 q2
          exact ⟨fun d os => cell_regrown q0 d os, fun d os => cell_regrown q1 d os, fun d os => cell_regrown q2 d os⟩
        have Kpc : Hid (∀ W9, Below y6.heap.size y6 W9 → (∀ d os, (grow (redrawn W9 d) os).cell? ⟨b4, off4 + z * 3, none⟩ = some (.int .i64 pcX)) ∧ (∀ d os, (grow (redrawn W9 d) os).cell? ⟨b4, off4 + z * 3 + 1, none⟩ = some (.int .i64 pcY)) ∧ (∀ d os, (grow (redrawn W9 d) os).cell? ⟨b4, off4 + z * 3 + 2, none⟩ = some (.int .i64 pcZ))) := by
          refine Lib.hid (fun W9 hb => ?_)
          obtain ⟨b5, off5, e5, _, q0, q1, q2⟩ := at3 (HPS4.out.below hb (Nat.le_refl _)) z DZ.out
          simp only [Option.some.injEq, Addr.mk.injEq, and_true] at e5
          obtain ⟨rfl, rfl⟩ := e5
          rw [← HPpc.out] at q0 q1 q2
          exact ⟨fun d os => cell_regrown q0 d os, fun d os => cell_regrown q1 d os, fun d os => cell_regrown q2 d os⟩
        clear HPS4 HPpa HPpb HPpc
        have QA := Lib.hid (fun W => qb (P := Try.prog) (W := W) (fun w2 _ => CTR.out w2))
        refine wp_region_free 137 [0, 1, 2, 3, 4, 5, 6, 7, 8, 9, 10, 11, 12, 13, 14, 15, 16, 17, 18, 19, 20, 21, 22, 25] [⟨23, 14, #[.int .i64 0, .int .i64 0, .int .i64 0, .int .i64 0], 33, 24, 66, #[.int .i64 ht, .int .i64 hi_, .int .i64 hu, .int .i64 hv]⟩] (by kernel_rfl) rfl (by kernel_rfl) (by
          intro x hx
          simp only [List.mem_cons, List.not_mem_nil, or_false] at hx
          subst hx
          exact ⟨⟨_, rfl, ⟨⟨_, rfl, alloc_hitR⟩, rfl, rfl⟩⟩, _, rfl, ⟨⟨_, rfl, hit_size⟩, rfl, rfl, rfl, row_one4 _ _ _ _⟩⟩) ?_
        refine Walk.step (A := ?A0) (o := ?o0) ?e0 ?w0 46 ?d0 (by simp) ?h0 ?n0
        case e0 => simp only [List.getElem?_toArray, List.getElem?_cons_succ, List.getElem?_cons_zero]; exact rfl
        case w0 => exact rfl
        case d0 => exact rfl
        case h0 =>
          intro W9 hW9
          have z0 := cell_all (KY.out W9 hW9) 0 _ rfl
          have z1 := cell_all (KY.out W9 hW9) 1 _ rfl
          have z2 := cell_all (KY.out W9 hW9) 2 _ rfl
          have z3 := cell_all (KY.out W9 hW9) 3 _ rfl
          have z4 := cell_all (KY.out W9 hW9) 4 _ rfl
          have z5 := cell_all (KY.out W9 hW9) 5 _ rfl
          go_big_quiet_op
          exact rfl
        refine Walk.step (A := ?A1) (o := ?o1) ?e1 ?w1 47 ?d1 (by simp) ?h1 ?n1
        case e1 => simp only [List.getElem?_toArray, List.getElem?_cons_succ, List.getElem?_cons_zero]; exact rfl
        case w1 => exact rfl
        case d1 => exact rfl
        case h1 =>
          intro W9 hW9
          go_big_quiet_op
          exact rfl
        refine Walk.step (A := ?A2) (o := ?o2) ?e2 ?w2 48 ?d2 (by simp) ?h2 ?n2
        case e2 => simp only [List.getElem?_toArray, List.getElem?_cons_succ, List.getElem?_cons_zero]; exact rfl
        case w2 => exact rfl
        case d2 => exact rfl
        case h2 =>
          intro W9 hW9
          have z0 := K0.out W9 hW9
          go_big_quiet_op
          exact rfl
        refine Walk.step (A := ?A3) (o := ?o3) ?e3 ?w3 49 ?d3 (by simp) ?h3 ?n3
        case e3 => simp only [List.getElem?_toArray, List.getElem?_cons_succ, List.getElem?_cons_zero]; exact rfl
        case w3 => exact rfl
        case d3 => exact rfl
        case h3 =>
          intro W9 hW9
          go_big_quiet_op
          exact rfl
        refine Walk.step (A := ?A4) (o := ?o4) ?e4 ?w4 50 ?d4 (by simp) ?h4 ?n4
        case e4 => simp only [List.getElem?_toArray, List.getElem?_cons_succ, List.getElem?_cons_zero]; exact rfl
        case w4 => exact rfl
        case d4 => exact rfl
        case h4 =>
          intro W9 hW9
          obtain ⟨z0, z1, z2⟩ := KT.out W9 hW9
          go_big_quiet_op
          exact rfl
        refine Walk.step (A := ?A5) (o := ?o5) ?e5 ?w5 51 ?d5 (by simp) ?h5 ?n5
        case e5 => simp only [List.getElem?_toArray, List.getElem?_cons_succ, List.getElem?_cons_zero]; exact rfl
        case w5 => exact rfl
        case d5 => exact rfl
        case h5 =>
          intro W9 hW9
          have z0 := DX.out
          go_big_quiet_op
          exact rfl
        refine Walk.step (A := ?A6) (o := ?o6) ?e6 ?w6 52 ?d6 (by simp) ?h6 ?n6
        case e6 => simp only [List.getElem?_toArray, List.getElem?_cons_succ, List.getElem?_cons_zero]; exact rfl
        case w6 => exact rfl
        case d6 => exact rfl
        case h6 =>
          intro W9 hW9
          obtain ⟨z0, z1, z2⟩ := Kpa.out W9 hW9
          go_big_quiet_op
          exact rfl
        refine Walk.step (A := ?A7) (o := ?o7) ?e7 ?w7 53 ?d7 (by simp) ?h7 ?n7
        case e7 => simp only [List.getElem?_toArray, List.getElem?_cons_succ, List.getElem?_cons_zero]; exact rfl
        case w7 => exact rfl
        case d7 => exact rfl
        case h7 =>
          intro W9 hW9
          go_big_quiet_op
          exact rfl
        refine Walk.step (A := ?A8) (o := ?o8) ?e8 ?w8 54 ?d8 (by simp) ?h8 ?n8
        case e8 => simp only [List.getElem?_toArray, List.getElem?_cons_succ, List.getElem?_cons_zero]; exact rfl
        case w8 => exact rfl
        case d8 => exact rfl
        case h8 =>
          intro W9 hW9
          have z0 := K0.out W9 hW9
          go_big_quiet_op
          exact rfl
        refine Walk.step (A := ?A9) (o := ?o9) ?e9 ?w9 55 ?d9 (by simp) ?h9 ?n9
        case e9 => simp only [List.getElem?_toArray, List.getElem?_cons_succ, List.getElem?_cons_zero]; exact rfl
        case w9 => exact rfl
        case d9 => exact rfl
        case h9 =>
          intro W9 hW9
          go_big_quiet_op
          exact rfl
        refine Walk.step (A := ?A10) (o := ?o10) ?e10 ?w10 56 ?d10 (by simp) ?h10 ?n10
        case e10 => simp only [List.getElem?_toArray, List.getElem?_cons_succ, List.getElem?_cons_zero]; exact rfl
        case w10 => exact rfl
        case d10 => exact rfl
        case h10 =>
          intro W9 hW9
          obtain ⟨z0, z1, z2⟩ := KT.out W9 hW9
          go_big_quiet_op
          exact rfl
        refine Walk.step (A := ?A11) (o := ?o11) ?e11 ?w11 57 ?d11 (by simp) ?h11 ?n11
        case e11 => simp only [List.getElem?_toArray, List.getElem?_cons_succ, List.getElem?_cons_zero]; exact rfl
        case w11 => exact rfl
        case d11 => exact rfl
        case h11 =>
          intro W9 hW9
          have z0 := DY.out
          go_big_quiet_op
          exact rfl
        refine Walk.step (A := ?A12) (o := ?o12) ?e12 ?w12 58 ?d12 (by simp) ?h12 ?n12
        case e12 => simp only [List.getElem?_toArray, List.getElem?_cons_succ, List.getElem?_cons_zero]; exact rfl
        case w12 => exact rfl
        case d12 => exact rfl
        case h12 =>
          intro W9 hW9
          obtain ⟨z0, z1, z2⟩ := Kpb.out W9 hW9
          go_big_quiet_op
          exact rfl
        refine Walk.step (A := ?A13) (o := ?o13) ?e13 ?w13 59 ?d13 (by simp) ?h13 ?n13
        case e13 => simp only [List.getElem?_toArray, List.getElem?_cons_succ, List.getElem?_cons_zero]; exact rfl
        case w13 => exact rfl
        case d13 => exact rfl
        case h13 =>
          intro W9 hW9
          go_big_quiet_op
          exact rfl
        refine Walk.step (A := ?A14) (o := ?o14) ?e14 ?w14 60 ?d14 (by simp) ?h14 ?n14
        case e14 => simp only [List.getElem?_toArray, List.getElem?_cons_succ, List.getElem?_cons_zero]; exact rfl
        case w14 => exact rfl
        case d14 => exact rfl
        case h14 =>
          intro W9 hW9
          have z0 := K0.out W9 hW9
          go_big_quiet_op
          exact rfl
        refine Walk.step (A := ?A15) (o := ?o15) ?e15 ?w15 61 ?d15 (by simp) ?h15 ?n15
        case e15 => simp only [List.getElem?_toArray, List.getElem?_cons_succ, List.getElem?_cons_zero]; exact rfl
        case w15 => exact rfl
        case d15 => exact rfl
        case h15 =>
          intro W9 hW9
          go_big_quiet_op
          exact rfl
        refine Walk.step (A := ?A16) (o := ?o16) ?e16 ?w16 62 ?d16 (by simp) ?h16 ?n16
        case e16 => simp only [List.getElem?_toArray, List.getElem?_cons_succ, List.getElem?_cons_zero]; exact rfl
        case w16 => exact rfl
        case d16 => exact rfl
        case h16 =>
          intro W9 hW9
          obtain ⟨z0, z1, z2⟩ := KT.out W9 hW9
          go_big_quiet_op
          exact rfl
        refine Walk.step (A := ?A17) (o := ?o17) ?e17 ?w17 63 ?d17 (by simp) ?h17 ?n17
        case e17 => simp only [List.getElem?_toArray, List.getElem?_cons_succ, List.getElem?_cons_zero]; exact rfl
        case w17 => exact rfl
        case d17 => exact rfl
        case h17 =>
          intro W9 hW9
          have z0 := DZ.out
          go_big_quiet_op
          exact rfl
        refine Walk.step (A := ?A18) (o := ?o18) ?e18 ?w18 64 ?d18 (by simp) ?h18 ?n18
        case e18 => simp only [List.getElem?_toArray, List.getElem?_cons_succ, List.getElem?_cons_zero]; exact rfl
        case w18 => exact rfl
        case d18 => exact rfl
        case h18 =>
          intro W9 hW9
          obtain ⟨z0, z1, z2⟩ := Kpc.out W9 hW9
          go_big_quiet_op
          exact rfl
        refine Walk.step (A := ?A19) (o := ?o19) ?e19 ?w19 65 ?d19 (by simp) ?h19 ?n19
        case e19 => simp only [List.getElem?_toArray, List.getElem?_cons_succ, List.getElem?_cons_zero]; exact rfl
        case w19 => exact rfl
        case d19 => exact rfl
        case h19 =>
          intro W9 hW9
          go_big_quiet_op
          apply Exists.intro
          refine ⟨fun _ => ?_, ?_⟩
          · with_reducible exact QA.out _ _ _
          exact rfl
        refine Walk.step (A := ?A20) (o := ?o20) ?e20 ?w20 45 ?d20 (by simp) ?h20 ?n20
        case e20 => simp only [List.getElem?_toArray, List.getElem?_cons_succ, List.getElem?_cons_zero]; exact rfl
        case w20 => exact rfl
        case d20 => exact rfl
        case h20 =>
          intro W9 hW9
          go_big_quiet_op
          exact rfl
        refine Walk.step (A := ?A21) (o := ?o21) ?e21 ?w21 66 ?d21 (by simp) ?h21 ?n21
        case e21 => simp only [List.getElem?_toArray, List.getElem?_cons_succ, List.getElem?_cons_zero]; exact rfl
        case w21 => exact rfl
        case d21 => exact rfl
        case h21 =>
          intro W9 hW9
          go_big_quiet_op
          exact rfl
        refine Walk.step (A := ?A22) (o := ?o22) ?e22 ?w22 67 ?d22 (by simp) ?h22 ?n22
        case e22 => simp only [List.getElem?_toArray, List.getElem?_cons_succ, List.getElem?_cons_zero]; exact rfl
        case w22 => exact rfl
        case d22 => exact rfl
        case h22 =>
          intro W9 hW9
          go_big_quiet_op
          exact rfl
        refine Walk.step (A := ?A25) (o := ?o25) ?e25 ?w25 15 ?d25 (by simp) ?h25 ?n25
        case e25 => simp only [List.getElem?_toArray, List.getElem?_cons_succ, List.getElem?_cons_zero]; exact rfl
        case w25 => exact rfl
        case d25 => exact rfl
        case h25 =>
          intro W9 hW9
          go_big_quiet_op
          exact rfl
        refine ⟨?_, ?_⟩
        · intro x hx
          simp only [List.mem_cons, List.not_mem_nil, or_false] at hx
          subst hx
          rfl
        intro G hG hne y7 hb hk
        have k7 := hk _ (List.mem_cons_self ..)
        dsimp only at k7
        have kg : y6.heap.size ≤ G 23 := by first | exact hG _ (List.mem_cons_self ..) | exact hG ⟨23, 14, #[.int .i64 0, .int .i64 0, .int .i64 0, .int .i64 0], 33, 24, 66, #[.int .i64 ht, .int .i64 hi_, .int .i64 hu, .int .i64 hv]⟩ (List.mem_cons_self ..)
        have HGE := Lib.hid (show w.heap.size + 1 + 1 < G 23 from Nat.lt_of_lt_of_le (Base.lt_of_heap HZ3.out) kg)
        simp only [lay, Act.put, List.setIfInBounds_toArray, List.set_cons_succ, List.set_cons_zero, ptr]
        generalize G 23 = gHH at k7 HGE ⊢
        clear hG hne hk kg QA CTR K0 KT KY Kpa Kpb Kpc DX DY DZ
        clear HR3 HY3 HT3 HM3
        have HZ4 := Lib.hid (vec_step HZ3.out hb)
        have HN4 := Lib.hid (vec_step HN3.out hb)
        have HB4 := Lib.hid (HB3.out.trans (hb.mono HB3.out.size))
        clear HZ3 HN3 HB3 hb  
        have HH4 := Lib.hid (k7)
        clear k7
        cases tk
        · have hr0 : res = none := HPK.out
          subst hr0
          clear HPK
          have cHN0 := cell_row HN4.out 0 _ rfl
          have cHN1 := cell_row HN4.out 1 _ rfl
          have cHN2 := cell_row HN4.out 2 _ rfl
          have cHN3 := cell_row HN4.out 3 _ rfl
          go_wp2_with (with_reducible refine store_hit rfl (.tmp 8) (.tmp 78) rfl rfl (w.heap.size + 1 + 1) 0 (-1) 0 0 rfl rfl _ HZ4.out rfl ?_)
          refine bodyPost_ret (results_row_tmp rfl _ _ _ (w.heap.size + 1 + 1) 33 _ _ _ rfl (setRow_heap _ _ _ _ _ _ HZ4.out) Try.underlying33 hit_size) rfl ?_
          exact ⟨rfl, below_setRow HB4.out (by omega) _⟩
        · have HPQ := Lib.hid (HPK.out.trans (if_pos rfl))
          clear HPK
          have cHH0 := cell_row HH4.out 0 _ rfl
          have cHH1 := cell_row HH4.out 1 _ rfl
          have cHH2 := cell_row HH4.out 2 _ rfl
          have cHH3 := cell_row HH4.out 3 _ rfl
          go_wp2_with fail
          refine (CRS.out _).mono ?_
          rintro e _ ⟨rfl, rfl⟩
          by_cases h3 : mx < least
          · have d3 : decide (mx < least) = true := decide_eq_true h3
            have hr0 : res = none := by rw [HPQ.out, if_pos h3]
            subst hr0
            clear HPQ
            have cHN0 := cell_row HN4.out 0 _ rfl
            have cHN1 := cell_row HN4.out 1 _ rfl
            have cHN2 := cell_row HN4.out 2 _ rfl
            have cHN3 := cell_row HN4.out 3 _ rfl
            go_wp2_with (with_reducible refine store_hit rfl (.tmp 8) (.tmp 78) rfl rfl (w.heap.size + 1 + 1) 0 (-1) 0 0 rfl rfl _ HZ4.out rfl ?_)
            refine bodyPost_ret (results_row_tmp rfl _ _ _ (w.heap.size + 1 + 1) 33 _ _ _ rfl (setRow_heap _ _ _ _ _ _ HZ4.out) Try.underlying33 hit_size) rfl ?_
            exact ⟨rfl, below_setRow HB4.out (by omega) _⟩
          · have d3 : decide (mx < least) = false := decide_eq_false h3
            have hr0 : res = some ⟨mx, (j : Int), hu, hv⟩ := by rw [HPQ.out, if_neg h3]
            subst hr0
            clear HPQ
            go_wp2_with fail
            refine (CRS.out _).mono ?_
            rintro e _ ⟨rfl, rfl⟩
            have t0 := frozen_of_row _ _ 0 _ _ HH4.out
            go_upto_region 13 with (fail)
            have HZ_ := Lib.hid ((heap_setCell_other y7 ⟨gHH, 0, none⟩ _ (.int .i64 mx) (show w.heap.size + 1 + 1 ≠ gHH by have := HGE.out; omega)).trans HZ4.out)
            have HH_ := Lib.hid (show (y7.setCell ⟨gHH, 0, none⟩ (.int .i64 mx)).heap[gHH]? = some (.cells #[.int .i64 mx, .int .i64 hi_, .int .i64 hu, .int .i64 hv] 33) from heap_setCell_same _ _ _ _ _ _ HH4.out)
            have HB_ := Lib.hid (setCell_below HB4.out (show w.heap.size ≤ gHH by have := HGE.out; omega) (.int .i64 mx) (j := 0))
            obtain ⟨W8, hW8⟩ : ∃ ww, ww = y7.setCell ⟨gHH, 0, none⟩ (.int .i64 mx) := ⟨_, rfl⟩
            rw [← hW8] at HZ_ HH_ HB_ ⊢
            clear hW8 t0 cHH0 cHH1 cHH2 cHH3 HZ4 HN4 HB4 HH4
            have q1 := cell_row HH_.out 1 (.int .i64 hi_) rfl
            have t1 := frozen_of_row _ _ 1 _ _ HH_.out
            go_upto_region 14 with (fail)
            have HZ91 := Lib.hid ((heap_setCell_other W8 ⟨gHH, 1, none⟩ _ (.int .i64 (j : Int)) (show w.heap.size + 1 + 1 ≠ gHH by have := HGE.out; omega)).trans HZ_.out)
            have HI_ := Lib.hid (show (W8.setCell ⟨gHH, 1, none⟩ (.int .i64 (j : Int))).heap[gHH]? = some (.cells #[.int .i64 mx, .int .i64 (j : Int), .int .i64 hu, .int .i64 hv] 33) from heap_setCell_same _ _ _ _ _ _ HH_.out)
            have HB91 := Lib.hid (setCell_below HB_.out (show w.heap.size ≤ gHH by have := HGE.out; omega) (.int .i64 (j : Int)) (j := 1))
            obtain ⟨W9, hW9⟩ : ∃ ww, ww = W8.setCell ⟨gHH, 1, none⟩ (.int .i64 (j : Int)) := ⟨_, rfl⟩
            rw [← hW9] at HZ91 HI_ HB91 ⊢
            clear hW9 q1 t1 HZ_ HH_ HB_
            have q0 := cell_row HI_.out 0 _ rfl
            have q1 := cell_row HI_.out 1 _ rfl
            have q2 := cell_row HI_.out 2 _ rfl
            have q3 := cell_row HI_.out 3 _ rfl
            go_wp2_with (with_reducible refine store_hit rfl (.tmp 8) (.tmp 86) rfl rfl (w.heap.size + 1 + 1) mx (j : Int) hu hv rfl rfl _ HZ91.out rfl ?_)
            refine bodyPost_ret (results_row_tmp rfl _ _ _ (w.heap.size + 1 + 1) 33 _ _ _ rfl (setRow_heap _ _ _ _ _ _ HZ91.out) Try.underlying33 hit_size) rfl ?_
            exact ⟨rfl, below_setRow HB91.out (by omega) _⟩
      · obtain ⟨j, hj, hij, hba⟩ := there_ball hth h2
        simp only [if_neg h2] at hres
        have d2 : decide (i < (m.ts.length : Int)) = false := decide_eq_false h2
        have wr_ : IntKind.i64.wrap (i - (m.ts.length : Int)) = (j : Int) := by have := HIN.out; unfold In at this; rw [wrap_in (by omega) (by omega)]; omega
        have hjd : decide (j < m.bs.length) = true := decide_eq_true hj
        have hjd2 : decide ((j : Int) < (m.bs.length : Int)) = true := decide_eq_true (by omega)
        obtain ⟨⟨⟨bX, bY, bZ⟩, br⟩, hbj⟩ : ∃ zz, zz = m.bs[j] := ⟨_, rfl⟩
        have okj : (⟨bX, bY, bZ⟩ : V3).ok ∧ In br := by have := HOK.out.bs m.bs[j] (List.getElem_mem hj); rw [← hbj] at this; exact this
        rw [hba, ← hbj] at hres
        have HBJ := Lib.hid (fun h : j < m.bs.length => (hbj.symm : m.bs[j]'h = _))
        have CBL := Lib.hid (fun w2 => rball_any ⟨⟨oX, oY, oZ⟩, ⟨dX, dY, dZ⟩⟩ ⟨⟨bX, bY, bZ⟩, br⟩ HRK.out okj.1 okj.2 w2)
        obtain ⟨bl, hbl⟩ : ∃ zz, zz = ballH ⟨⟨oX, oY, oZ⟩, ⟨dX, dY, dZ⟩⟩ ⟨⟨bX, bY, bZ⟩, br⟩ := ⟨_, rfl⟩
        rw [← hbl] at CBL hres
        unfold ballR at CBL
        obtain ⟨⟨x, y⟩, hgd⟩ : ∃ zz, zz = bl.getD (0, 0) := ⟨_, rfl⟩
        obtain ⟨tk, htk⟩ : ∃ zz, zz = bl.isSome := ⟨_, rfl⟩
        rw [← hgd, ← htk] at CBL
        dsimp only [rayV] at CBL
        obtain ⟨mx, hmx⟩ : ∃ zz, zz = maxI x near := ⟨_, rfl⟩
        obtain ⟨my, hmy⟩ : ∃ zz, zz = maxI y near := ⟨_, rfl⟩
        have HPK : Hid (res = if tk = true then (if 0 ≤ x ∧ least ≤ mx then some ⟨mx, i, 0, 0⟩ else if 0 ≤ y ∧ least ≤ my then some ⟨my, i, 0, 0⟩ else none) else none) := Lib.hid (by rw [hres]; cases bl with | none => rw [htk]; rfl | some h => rw [htk, hmx, hmy]; simp only [Option.getD_some] at hgd; rw [← hgd]; rfl)
        have CRX : Hid (∀ w, Calls Try.prog 56 #[.int .i64 x, .int .i64 near] w (fun e w' => e = .returned (.int .i64 mx) ∧ w = w')) := Lib.hid (fun w => by have := raised_any x near w; rw [← hmx] at this; exact this)
        have CRY : Hid (∀ w, Calls Try.prog 56 #[.int .i64 y, .int .i64 near] w (fun e w' => e = .returned (.int .i64 my) ∧ w = w')) := Lib.hid (fun w => by have := raised_any y near w; rw [← hmy] at this; exact this)
        clear hres hbl hgd htk hmx hmy hbj okj hij hba h2 HTH
        rw [hth] at CTH
        clear hth
        go_enter Try.func22, Try.ntmps22
        go_upto_region 2 with (fail)
        rw [← HWW.out]
        clear HWW
        have cHR0 := cell_row HR0.out 0 _ rfl
        have cHR1 := cell_row HR0.out 1 _ rfl
        have cHR2 := cell_row HR0.out 2 _ rfl
        go_wp2_with fail
        refine (CTH.out _ HB0.out).mono ?_
        rintro e y8 ⟨rfl, hb⟩
        have HR1 := Lib.hid (vec_step HR0.out hb)
        have HY1 := Lib.hid (vec_step HY0.out hb)
        have HZ1 := Lib.hid (vec_step HZ0.out hb)
        have HN1 := Lib.hid (vec_step HN0.out hb)
        have HB1 := Lib.hid (HB0.out.trans (hb.mono HB0.out.size))
        have HM1 := Lib.hid (HM0.out.below hb)
        clear HR0 HY0 HZ0 HN0 HB0 HM0 hb cHR0 cHR1 cHR2 CTH
        go_upto_region 4 with (fail)
        obtain ⟨⟨⟨p1, p2, p3⟩, ⟨p4, p5, p6⟩⟩, hbx⟩ : ∃ zz, zz = boxF m i := ⟨_, rfl⟩
        have okb := ok_box m HOK.out i
        rw [← hbx] at okb
        have Q1 := Lib.hid (qb (P := Try.prog) (W := y8) (v := .agg #[.int .i64 p1, .int .i64 p2, .int .i64 p3, .int .i64 p4, .int .i64 p5, .int .i64 p6]) (fun w2 hb => by have := rbox_any _ m w2 (HM1.out.below hb) HOK.out HTB.out i HIN.out; rw [← hbx] at this; exact this))
        have Q2 := Lib.hid (qb (P := Try.prog) (W := y8) (fun w2 hb => rhbox_any ⟨⟨oX, oY, oZ⟩, ⟨dX, dY, dZ⟩⟩ ⟨⟨p1, p2, p3⟩, ⟨p4, p5, p6⟩⟩ HRK.out okb w2))
        have hbn2 := hbn
        rw [← hbx] at hbn2
        rw [hbn2] at Q2
        unfold boxR at Q2
        clear hbn2
        dsimp only [rayV, boxV, Option.getD_some, Option.getD_none, Option.isSome_some, Option.isSome_none] at Q2
        clear okb
        have fHR0 := fun d os => cell_regrown (cell_row HR1.out 0 _ rfl) d os
        have fHR1 := fun d os => cell_regrown (cell_row HR1.out 1 _ rfl) d os
        have fHR2 := fun d os => cell_regrown (cell_row HR1.out 2 _ rfl) d os
        have fHY0 := fun d os => cell_regrown (cell_row HY1.out 0 _ rfl) d os
        have fHY1 := fun d os => cell_regrown (cell_row HY1.out 1 _ rfl) d os
        have fHY2 := fun d os => cell_regrown (cell_row HY1.out 2 _ rfl) d os
        have fHY3 := fun d os => cell_regrown (cell_row HY1.out 3 _ rfl) d os
        have fHY4 := fun d os => cell_regrown (cell_row HY1.out 4 _ rfl) d os
        have fHY5 := fun d os => cell_regrown (cell_row HY1.out 5 _ rfl) d os
        refine wp_region_quiet_below (by kernel_rfl) (by kernel_rfl) ?_
        repeat (go_big_quiet_step (first | (with_reducible exact Q1.out _ _) | (with_reducible exact Q2.out _ _)))
        refine wpQuiet_nil ?_
        first | (rintro _ ⟨⟨dq, osq⟩, rfl⟩) | (rintro ⟨dq, osq⟩)
        have hb := below_regrown y8 dq osq
        obtain ⟨y9, hW⟩ : ∃ ww, ww = grow (redrawn y8 dq) osq := ⟨_, rfl⟩
        rw [← hW] at hb ⊢
        clear hW
        have HR2 := Lib.hid (vec_step HR1.out hb)
        have HY2 := Lib.hid (vec_step HY1.out hb)
        have HZ2 := Lib.hid (vec_step HZ1.out hb)
        have HN2 := Lib.hid (vec_step HN1.out hb)
        have HB2 := Lib.hid (HB1.out.trans (hb.mono HB1.out.size))
        have HM2 := Lib.hid (HM1.out.below hb)
        clear HR1 HY1 HZ1 HN1 HB1 HM1 hb  fHR0 fHR1 fHR2 fHY0 fHY1 fHY2 fHY3 fHY4 fHY5
        clear Q1 Q2
        have cHR1 := cell_row HR2.out 1 _ rfl
        go_upto_region 15 with (fail)
        clear cHR1
        have Q3 := Lib.hid (qb (P := Try.prog) (W := y9) (fun w2 hb => CBL.out w2))
        obtain ⟨b9, o9, e, -, u0, u1, u2, u3⟩ := at4 (HBS0_.out.below HB2.out (Nat.le_refl _)) j hj
        subst e
        rw [HBJ.out hj] at u0 u1 u2 u3
        dsimp only at u0 u1 u2 u3
        have fu0 := fun d os => cell_regrown u0 d os
        have fu1 := fun d os => cell_regrown u1 d os
        have fu2 := fun d os => cell_regrown u2 d os
        have fu3 := fun d os => cell_regrown u3 d os
        clear u0 u1 u2 u3
        have fHR0 := fun d os => cell_regrown (cell_row HR2.out 0 _ rfl) d os
        have fHR1 := fun d os => cell_regrown (cell_row HR2.out 1 _ rfl) d os
        have fHR2 := fun d os => cell_regrown (cell_row HR2.out 2 _ rfl) d os
        have fHY0 := fun d os => cell_regrown (cell_row HY2.out 0 _ rfl) d os
        have fHY1 := fun d os => cell_regrown (cell_row HY2.out 1 _ rfl) d os
        have fHY2 := fun d os => cell_regrown (cell_row HY2.out 2 _ rfl) d os
        have fHY3 := fun d os => cell_regrown (cell_row HY2.out 3 _ rfl) d os
        have fHY4 := fun d os => cell_regrown (cell_row HY2.out 4 _ rfl) d os
        have fHY5 := fun d os => cell_regrown (cell_row HY2.out 5 _ rfl) d os
        refine wp_region_quiet_below (by kernel_rfl) (by kernel_rfl) ?_
        repeat (go_big_quiet_step (first | (with_reducible exact Q3.out _ _)))
        refine wpQuiet_nil ?_
        first | (rintro _ ⟨⟨dq, osq⟩, rfl⟩) | (rintro ⟨dq, osq⟩)
        have hb := below_regrown y9 dq osq
        obtain ⟨y10, hW⟩ : ∃ ww, ww = grow (redrawn y9 dq) osq := ⟨_, rfl⟩
        rw [← hW] at hb ⊢
        clear hW
        have HR3 := Lib.hid (vec_step HR2.out hb)
        have HY3 := Lib.hid (vec_step HY2.out hb)
        have HZ3 := Lib.hid (vec_step HZ2.out hb)
        have HN3 := Lib.hid (vec_step HN2.out hb)
        have HB3 := Lib.hid (HB2.out.trans (hb.mono HB2.out.size))
        have HM3 := Lib.hid (HM2.out.below hb)
        clear HR2 HY2 HZ2 HN2 HB2 HM2 hb  fHR0 fHR1 fHR2 fHY0 fHY1 fHY2 fHY3 fHY4 fHY5
        clear Q3 fu0 fu1 fu2 fu3 CBL
        cases tk
        · have hr0 : res = none := HPK.out
          subst hr0
          clear HPK
          have cHN0 := cell_row HN3.out 0 _ rfl
          have cHN1 := cell_row HN3.out 1 _ rfl
          have cHN2 := cell_row HN3.out 2 _ rfl
          have cHN3 := cell_row HN3.out 3 _ rfl
          go_wp2_with (with_reducible refine store_hit rfl (.tmp 8) (.tmp 136) rfl rfl (w.heap.size + 1 + 1) 0 (-1) 0 0 rfl rfl _ HZ3.out rfl ?_)
          refine bodyPost_ret (results_row_tmp rfl _ _ _ (w.heap.size + 1 + 1) 33 _ _ _ rfl (setRow_heap _ _ _ _ _ _ HZ3.out) Try.underlying33 hit_size) rfl ?_
          exact ⟨rfl, below_setRow HB3.out (by omega) _⟩
        · have HPQ := Lib.hid (HPK.out.trans (if_pos rfl))
          clear HPK
          by_cases h3 : 0 ≤ x
          · have e3 : decide (0 ≤ x) = true := decide_eq_true h3
            go_wp2_with fail
            refine (CRX.out _).mono ?_
            rintro e _ ⟨rfl, rfl⟩
            by_cases h4 : least ≤ mx
            · have e4 : decide (least ≤ mx) = true := decide_eq_true h4
              have hr0 : res = some ⟨mx, i, 0, 0⟩ := by rw [HPQ.out, if_pos ⟨h3, h4⟩]
              subst hr0
              clear HPQ
              go_wp2_with fail
              refine (CRX.out _).mono ?_
              rintro e _ ⟨rfl, rfl⟩
              go_wp2_with (with_reducible refine store_hit rfl (.tmp 8) (.tmp 118) rfl rfl (w.heap.size + 1 + 1) mx i 0 0 rfl rfl _ HZ3.out rfl ?_)
              refine bodyPost_ret (results_row_tmp rfl _ _ _ (w.heap.size + 1 + 1) 33 _ _ _ rfl (setRow_heap _ _ _ _ _ _ HZ3.out) Try.underlying33 hit_size) rfl ?_
              exact ⟨rfl, below_setRow HB3.out (by omega) _⟩
            · have e4x : decide (least ≤ mx) = false := decide_eq_false h4
              by_cases g1 : 0 ≤ y
              · have e4 : decide (0 ≤ y) = true := decide_eq_true g1
                go_wp2_with fail
                refine (CRY.out _).mono ?_
                rintro e _ ⟨rfl, rfl⟩
                by_cases g2 : least ≤ my
                · have e5 : decide (least ≤ my) = true := decide_eq_true g2
                  have hr0 : res = some ⟨my, i, 0, 0⟩ := by rw [HPQ.out, if_neg (fun h => by have := h.2; omega), if_pos ⟨g1, g2⟩]
                  subst hr0
                  clear HPQ
                  go_wp2_with fail
                  refine (CRY.out _).mono ?_
                  rintro e _ ⟨rfl, rfl⟩
                  go_wp2_with (with_reducible refine store_hit rfl (.tmp 8) (.tmp 135) rfl rfl (w.heap.size + 1 + 1) my i 0 0 rfl rfl _ HZ3.out rfl ?_)
                  refine bodyPost_ret (results_row_tmp rfl _ _ _ (w.heap.size + 1 + 1) 33 _ _ _ rfl (setRow_heap _ _ _ _ _ _ HZ3.out) Try.underlying33 hit_size) rfl ?_
                  exact ⟨rfl, below_setRow HB3.out (by omega) _⟩
                · have e5 : decide (least ≤ my) = false := decide_eq_false g2
                  have hr0 : res = none := by rw [HPQ.out, if_neg (fun h => by have := h.2; omega), if_neg (fun h => by have := h.2; omega)]
                  subst hr0
                  clear HPQ
                  have cHN0 := cell_row HN3.out 0 _ rfl
                  have cHN1 := cell_row HN3.out 1 _ rfl
                  have cHN2 := cell_row HN3.out 2 _ rfl
                  have cHN3 := cell_row HN3.out 3 _ rfl
                  go_wp2_with (with_reducible refine store_hit rfl (.tmp 8) (.tmp 136) rfl rfl (w.heap.size + 1 + 1) 0 (-1) 0 0 rfl rfl _ HZ3.out rfl ?_)
                  refine bodyPost_ret (results_row_tmp rfl _ _ _ (w.heap.size + 1 + 1) 33 _ _ _ rfl (setRow_heap _ _ _ _ _ _ HZ3.out) Try.underlying33 hit_size) rfl ?_
                  exact ⟨rfl, below_setRow HB3.out (by omega) _⟩
              · have e4 : decide (0 ≤ y) = false := decide_eq_false g1
                have hr0 : res = none := by rw [HPQ.out, if_neg (fun h => by have := h.2; omega), if_neg (fun h => by have := h.1; omega)]
                subst hr0
                clear HPQ
                have cHN0 := cell_row HN3.out 0 _ rfl
                have cHN1 := cell_row HN3.out 1 _ rfl
                have cHN2 := cell_row HN3.out 2 _ rfl
                have cHN3 := cell_row HN3.out 3 _ rfl
                go_wp2_with (with_reducible refine store_hit rfl (.tmp 8) (.tmp 136) rfl rfl (w.heap.size + 1 + 1) 0 (-1) 0 0 rfl rfl _ HZ3.out rfl ?_)
                refine bodyPost_ret (results_row_tmp rfl _ _ _ (w.heap.size + 1 + 1) 33 _ _ _ rfl (setRow_heap _ _ _ _ _ _ HZ3.out) Try.underlying33 hit_size) rfl ?_
                exact ⟨rfl, below_setRow HB3.out (by omega) _⟩
          · have e3 : decide (0 ≤ x) = false := decide_eq_false h3
            by_cases g1 : 0 ≤ y
            · have e4 : decide (0 ≤ y) = true := decide_eq_true g1
              go_wp2_with fail
              refine (CRY.out _).mono ?_
              rintro e _ ⟨rfl, rfl⟩
              by_cases g2 : least ≤ my
              · have e5 : decide (least ≤ my) = true := decide_eq_true g2
                have hr0 : res = some ⟨my, i, 0, 0⟩ := by rw [HPQ.out, if_neg (fun h => by have := h.1; omega), if_pos ⟨g1, g2⟩]
                subst hr0
                clear HPQ
                go_wp2_with fail
                refine (CRY.out _).mono ?_
                rintro e _ ⟨rfl, rfl⟩
                go_wp2_with (with_reducible refine store_hit rfl (.tmp 8) (.tmp 135) rfl rfl (w.heap.size + 1 + 1) my i 0 0 rfl rfl _ HZ3.out rfl ?_)
                refine bodyPost_ret (results_row_tmp rfl _ _ _ (w.heap.size + 1 + 1) 33 _ _ _ rfl (setRow_heap _ _ _ _ _ _ HZ3.out) Try.underlying33 hit_size) rfl ?_
                exact ⟨rfl, below_setRow HB3.out (by omega) _⟩
              · have e5 : decide (least ≤ my) = false := decide_eq_false g2
                have hr0 : res = none := by rw [HPQ.out, if_neg (fun h => by have := h.1; omega), if_neg (fun h => by have := h.2; omega)]
                subst hr0
                clear HPQ
                have cHN0 := cell_row HN3.out 0 _ rfl
                have cHN1 := cell_row HN3.out 1 _ rfl
                have cHN2 := cell_row HN3.out 2 _ rfl
                have cHN3 := cell_row HN3.out 3 _ rfl
                go_wp2_with (with_reducible refine store_hit rfl (.tmp 8) (.tmp 136) rfl rfl (w.heap.size + 1 + 1) 0 (-1) 0 0 rfl rfl _ HZ3.out rfl ?_)
                refine bodyPost_ret (results_row_tmp rfl _ _ _ (w.heap.size + 1 + 1) 33 _ _ _ rfl (setRow_heap _ _ _ _ _ _ HZ3.out) Try.underlying33 hit_size) rfl ?_
                exact ⟨rfl, below_setRow HB3.out (by omega) _⟩
            · have e4 : decide (0 ≤ y) = false := decide_eq_false g1
              have hr0 : res = none := by rw [HPQ.out, if_neg (fun h => by have := h.1; omega), if_neg (fun h => by have := h.1; omega)]
              subst hr0
              clear HPQ
              have cHN0 := cell_row HN3.out 0 _ rfl
              have cHN1 := cell_row HN3.out 1 _ rfl
              have cHN2 := cell_row HN3.out 2 _ rfl
              have cHN3 := cell_row HN3.out 3 _ rfl
              go_wp2_with (with_reducible refine store_hit rfl (.tmp 8) (.tmp 136) rfl rfl (w.heap.size + 1 + 1) 0 (-1) 0 0 rfl rfl _ HZ3.out rfl ?_)
              refine bodyPost_ret (results_row_tmp rfl _ _ _ (w.heap.size + 1 + 1) 33 _ _ _ rfl (setRow_heap _ _ _ _ _ _ HZ3.out) Try.underlying33 hit_size) rfl ?_
              exact ⟨rfl, below_setRow HB3.out (by omega) _⟩

end Go.Proofs.Ytdmmbhcaejojeaa.HitR3
