/- The walks of ref13 Scan and Normal. -/
import Derived.Test.YtdmmbhcaejojeaaHitR3
import Derived.Test.YtdmmbhcaejojeaaHitP
set_option linter.unusedVariables false
set_option linter.unusedSimpArgs false
namespace Go.Proofs.Ytdmmbhcaejojeaa.HitR4
open Go.RowKit Go.Sort FixM Base Num FixW Qb Qt Qa Qf Qg VecW VecV VecU VecR LightQ LightC MeshM Rec MeshA MeshB MeshC MeshD MeshE MeshP HitM HitT HitB HitX HitN HitC HitS HitV HitP HitR HitR2 HitR3 VecR

set_option maxRecDepth 100000 in
set_option maxHeartbeats 16000000 in
theorem rscan_any (v : Value) (m : Msh) (w : World) (hm : IsMesh w v m) (ok : m.ok) (hl : m.ts.length + m.bs.length ≤ 9223372036854775807) (r : Ry) (hr : r.ok) (least : Int) : Calls Try.prog 24 #[v, rayV r, .int .i64 least] w (VTo (hitV (scanF m r least)) w) := by
  have CCN := Lib.hid (fun w2 (hb : Below w.heap.size w w2) => rcount_any v m w2 (hm.below hb) hl)
  have CSH := Lib.hid (fun w2 (hb : Below w.heap.size w w2) (k : Nat) (hk : k < m.ts.length + m.bs.length) => rshape_any v m w2 (hm.below hb) ok hl (k : Int) ⟨by omega, by omega⟩ r hr least)
  have HRS := Lib.hid (rscan_all m r least).symm
  have H00 := Lib.hid (show rscanTo m r least 0 = htN from rfl)
  obtain ⟨shp, hshp⟩ : ∃ zz : Nat → Option Ht, zz = fun k : Nat => shapeF m (k : Int) r least := ⟨_, rfl⟩
  have HNX2 : Hid (∀ j, rscanTo m r least (j + 1) = match shp (m.ts.length + m.bs.length - 1 - j) with | none => rscanTo m r least j | some h => if (rscanTo m r least j).i < 0 ∨ h.t ≤ (rscanTo m r least j).t then h else rscanTo m r least j) := Lib.hid (by rw [hshp]; exact fun _ => rfl)
  obtain ⟨a0, c0, a1, c1, a2, c2, rfl, -⟩ := hm.open_
  have CS2 : Hid (∀ w2, Below w.heap.size w w2 → ∀ k : Nat, k < m.ts.length + m.bs.length → Calls Try.prog 22 #[.agg #[.slice a0 m.ps.length c0, .slice a1 m.ts.length c1, .slice a2 m.bs.length c2], .int .i64 (k : Int), rayV r, .int .i64 least] w2 (VTo (shapeR (shp k)) w2)) := Lib.hid (by rw [hshp]; exact CSH.out)
  clear hshp CSH
  generalize scanF m r least = res at HRS ⊢
  generalize rscanTo m r least = sc at HNX2 HRS H00
  obtain ⟨N, hN⟩ : ∃ zz, zz = m.ts.length + m.bs.length := ⟨_, rfl⟩
  rw [← hN] at CCN HNX2 CS2 HRS hl
  clear hN
  obtain ⟨⟨oX, oY, oZ⟩, ⟨dX, dY, dZ⟩⟩ := r
  dsimp only [rayV] at *
  obtain ⟨hA, hB_, hC, hD, hB0⟩ := al4 w (.cells #[.slice a0 m.ps.length c0, .slice a1 m.ts.length c1, .slice a2 m.bs.length c2] 44) (.cells #[.int .i64 oX, .int .i64 oY, .int .i64 oZ, .int .i64 dX, .int .i64 dY, .int .i64 dZ] 25) (.cells #[.int .i64 0, .int .i64 0, .int .i64 0, .int .i64 0] 33) (.cells #[.int .i64 0, .int .i64 (-1), .int .i64 0, .int .i64 0] 33)
  obtain ⟨W, hW⟩ : ∃ ww, ww = (((w.alloc (.cells #[.slice a0 m.ps.length c0, .slice a1 m.ts.length c1, .slice a2 m.bs.length c2] 44)).alloc (.cells #[.int .i64 oX, .int .i64 oY, .int .i64 oZ, .int .i64 dX, .int .i64 dY, .int .i64 dZ] 25)).alloc (.cells #[.int .i64 0, .int .i64 0, .int .i64 0, .int .i64 0] 33)).alloc (.cells #[.int .i64 0, .int .i64 (-1), .int .i64 0, .int .i64 0] 33) := ⟨_, rfl⟩
  rw [← hW] at hA hB_ hC hD hB0
  have HR0 := Lib.hid hA
  have HY0 := Lib.hid hB_
  have HZ0 := Lib.hid hC
  have HBE0 := Lib.hid hD
  have HB0 := Lib.hid hB0
  have HWW := Lib.hid hW
  clear hA hB_ hC hD hB0 hW hm ok hr
  have wi0 : IntKind.i64.wrap ((N : Int) - 1) = (N : Int) - 1 := by rw [wrap_in (by omega) (by omega)]
  go_enter Try.func24, Try.ntmps24
  go_upto_region 2 with (fail)
  rw [← HWW.out]
  clear HWW
  have cHR0 := cell_row HR0.out 0 _ rfl
  have cHR1 := cell_row HR0.out 1 _ rfl
  have cHR2 := cell_row HR0.out 2 _ rfl
  go_wp2_with fail
  refine (CCN.out _ HB0.out).mono ?_
  rintro e y1 ⟨rfl, hb⟩
  have HR1 := Lib.hid (vec_step HR0.out hb)
  have HY1 := Lib.hid (vec_step HY0.out hb)
  have HZ1 := Lib.hid (vec_step HZ0.out hb)
  have HBE1 := Lib.hid (vec_step HBE0.out hb)
  have HB1 := Lib.hid (HB0.out.trans (hb.mono HB0.out.size))
  clear HR0 HY0 HZ0 HBE0 HB0 hb cHR0 cHR1 cHR2 
  have HS0 := Lib.hid (show Sc w y1 y1 (w.heap.size + 1 + 1 + 1) (sc 0) from ⟨by rw [H00.out]; exact HBE1.out, HB1.out, Keeps.refl _ _⟩)
  obtain ⟨gB, hgB⟩ : ∃ zz, zz = w.heap.size + 1 + 1 + 1 := ⟨_, rfl⟩
  rw [← hgB] at HS0 ⊢
  have HGE := Lib.hid (show w.heap.size + 1 + 1 < gB by omega)
  clear HBE1 H00 hgB
  go_wp2_with fail
  go_loopg [8] N (fun r n9 wr => ∃ (k : Nat) (z : Int), k + r = N ∧ z = (N : Int) - 1 - (k : Int) ∧ n9 = .int .i64 z ∧ Hid (Sc w y1 wr gB (sc k)))
  case atStart => exact ⟨0, _, by omega, by omega, rfl, HS0⟩
  case round =>
    obtain ⟨j, z, hkr, hz, rfl, hin⟩ := hrel
    have HR9 := Lib.hid (keep_cell hin.out.k HR1.out (fun e => by have := HGE.out; omega))
    have HY9 := Lib.hid (keep_cell hin.out.k HY1.out (fun e => by have := HGE.out; omega))
    have HZ9 := Lib.hid (keep_cell hin.out.k HZ1.out (fun e => by have := HGE.out; omega))
    by_cases hk : 0 ≤ z
    · have d2 : decide (0 ≤ z) = true := decide_eq_true hk
      obtain ⟨k, rfl⟩ := Int.eq_ofNat_of_zero_le hk
      have hkn : k = N - 1 - j := by omega
      have wi : IntKind.i64.wrap ((k : Int) - 1) = (k : Int) - 1 := by rw [wrap_in (by omega) (by omega)]
      have HNK := Lib.hid (HNX2.out j)
      have CK := Lib.hid (fun w2 hb => CS2.out w2 hb k (by omega))
      have HAR := Lib.hid (show j + 1 + (gk - 1) = N ∧ gk - 1 < gk ∧ (k : Int) - 1 = (N : Int) - 1 - ((j + 1 : Nat) : Int) by omega)
      rw [← hkn] at HNK
      obtain ⟨bst, hbst⟩ : ∃ zz, zz = sc j := ⟨_, rfl⟩
      have hin1 := hin.out
      rw [← hbst] at HNK hin1
      have HIN := Lib.hid hin1
      obtain ⟨bt, bi, bu, bv⟩ := bst
      dsimp only at HNK
      clear hin hin1 hbst hkr hk hz hkn
      cases hsh : shp k
      · rw [hsh] at CK HNK
        dsimp only at HNK
        unfold shapeR at CK
        dsimp only [hitV, htN, Option.getD_some, Option.getD_none, Option.isSome_some, Option.isSome_none] at CK
        have c0 := cell_row HR9.out 0 _ rfl
        have c1 := cell_row HR9.out 1 _ rfl
        have c2 := cell_row HR9.out 2 _ rfl
        have e0 := cell_row HY9.out 0 _ rfl
        have e1 := cell_row HY9.out 1 _ rfl
        have e2 := cell_row HY9.out 2 _ rfl
        have e3 := cell_row HY9.out 3 _ rfl
        have e4 := cell_row HY9.out 4 _ rfl
        have e5 := cell_row HY9.out 5 _ rfl
        go_wp2_with fail
        refine (CK.out _ HIN.out.hb).mono ?_
        rintro e x1 ⟨rfl, hb⟩
        have HI1 := Lib.hid (HIN.out.step hb)
        clear hb HIN CK c0 c1 c2 e0 e1 e2 e3 e4 e5
        have HI2 := Lib.hid (HI1.out.step (ext_alloc x1 (.cells #[.int .i64 0, .int .i64 (-1), .int .i64 0, .int .i64 0] 33)))
        go_wp2_with fail
        go_roundg (gk - 1)
        case measure => exact HAR.out.2.1
        case rel => exact ⟨j + 1, _, HAR.out.1, HAR.out.2.2, rfl, Lib.hid (by rw [HNK.out]; exact HI2.out)⟩
      · rename_i hh
        obtain ⟨ht, hi_, hu, hv⟩ := hh
        rw [hsh] at CK HNK
        dsimp only at HNK
        unfold shapeR at CK
        dsimp only [hitV, htN, Option.getD_some, Option.getD_none, Option.isSome_some, Option.isSome_none] at CK
        have c0 := cell_row HR9.out 0 _ rfl
        have c1 := cell_row HR9.out 1 _ rfl
        have c2 := cell_row HR9.out 2 _ rfl
        have e0 := cell_row HY9.out 0 _ rfl
        have e1 := cell_row HY9.out 1 _ rfl
        have e2 := cell_row HY9.out 2 _ rfl
        have e3 := cell_row HY9.out 3 _ rfl
        have e4 := cell_row HY9.out 4 _ rfl
        have e5 := cell_row HY9.out 5 _ rfl
        go_wp2_with fail
        refine (CK.out _ HIN.out.hb).mono ?_
        rintro e x1 ⟨rfl, hb⟩
        have HI1 := Lib.hid (HIN.out.step hb)
        clear hb HIN CK c0 c1 c2 e0 e1 e2 e3 e4 e5
        go_upto_region 6 with (fail)
        have HI2 := Lib.hid (HI1.out.step (ext_alloc x1 (.cells #[.int .i64 ht, .int .i64 hi_, .int .i64 hu, .int .i64 hv] 33)))
        have hn := heap_alloc_new x1 (.cells #[.int .i64 ht, .int .i64 hi_, .int .i64 hu, .int .i64 hv] 33)
        obtain ⟨x2, hx2⟩ : ∃ ww, ww = x1.alloc (.cells #[.int .i64 ht, .int .i64 hi_, .int .i64 hu, .int .i64 hv] 33) := ⟨_, rfl⟩
        rw [← hx2] at HI2 hn ⊢
        have HH := Lib.hid hn
        clear hx2 hn HI1
        generalize x1.heap.size = gH at HH ⊢
        by_cases h1 : bi < 0
        · have d4 : decide (bi < 0) = true := decide_eq_true h1
          have c0 := cell_row HH.out 0 _ rfl
          have c1 := cell_row HH.out 1 _ rfl
          have c2 := cell_row HH.out 2 _ rfl
          have c3 := cell_row HH.out 3 _ rfl
          have e0 := cell_row HI2.out.row 0 (.int .i64 bt) rfl
          have e1 := cell_row HI2.out.row 1 (.int .i64 bi) rfl
          go_wp2_with (with_reducible refine store_hit rfl (.tmp 7) (.tmp 40) rfl rfl gB ht hi_ hu hv rfl rfl _ HI2.out.row rfl ?_)
          go_roundg (gk - 1)
          case measure => exact HAR.out.2.1
          case rel => exact ⟨j + 1, _, HAR.out.1, HAR.out.2.2, rfl, Lib.hid (by rw [HNK.out, if_pos (.inl h1)]; exact HI2.out.put (h' := ⟨ht, hi_, hu, hv⟩) (by have := HGE.out; omega))⟩
        · have d4 : decide (bi < 0) = false := decide_eq_false h1
          by_cases h2 : ht ≤ bt
          · have d5 : decide (ht ≤ bt) = true := decide_eq_true h2
            have c0 := cell_row HH.out 0 _ rfl
            have c1 := cell_row HH.out 1 _ rfl
            have c2 := cell_row HH.out 2 _ rfl
            have c3 := cell_row HH.out 3 _ rfl
            have e0 := cell_row HI2.out.row 0 (.int .i64 bt) rfl
            have e1 := cell_row HI2.out.row 1 (.int .i64 bi) rfl
            go_wp2_with (with_reducible refine store_hit rfl (.tmp 7) (.tmp 40) rfl rfl gB ht hi_ hu hv rfl rfl _ HI2.out.row rfl ?_)
            go_roundg (gk - 1)
            case measure => exact HAR.out.2.1
            case rel => exact ⟨j + 1, _, HAR.out.1, HAR.out.2.2, rfl, Lib.hid (by rw [HNK.out, if_pos (.inr h2)]; exact HI2.out.put (h' := ⟨ht, hi_, hu, hv⟩) (by have := HGE.out; omega))⟩
          · have d5 : decide (ht ≤ bt) = false := decide_eq_false h2
            have HNO : Hid (¬ (bi < 0 ∨ ht ≤ bt)) := Lib.hid (by omega)
            have c0 := cell_row HH.out 0 _ rfl
            have c1 := cell_row HH.out 1 _ rfl
            have c2 := cell_row HH.out 2 _ rfl
            have c3 := cell_row HH.out 3 _ rfl
            have e0 := cell_row HI2.out.row 0 (.int .i64 bt) rfl
            have e1 := cell_row HI2.out.row 1 (.int .i64 bi) rfl
            go_wp2_with fail
            go_roundg (gk - 1)
            case measure => exact HAR.out.2.1
            case rel => exact ⟨j + 1, _, HAR.out.1, HAR.out.2.2, rfl, Lib.hid (by rw [HNK.out, if_neg HNO.out]; exact HI2.out)⟩
    · have d2 : decide (0 ≤ z) = false := decide_eq_false hk
      obtain rfl : j = N := by omega
      have hin1 := hin.out
      rw [← HRS.out] at hin1
      have HIN := Lib.hid hin1
      clear hin hin1 hk hkr HRS hz
      obtain ⟨ht, hi_, hu, hv⟩ := res
      have c0 := cell_row HIN.out.row 0 _ rfl
      have c1 := cell_row HIN.out.row 1 _ rfl
      have c2 := cell_row HIN.out.row 2 _ rfl
      have c3 := cell_row HIN.out.row 3 _ rfl
      go_wp2_with (with_reducible refine store_hit rfl (.tmp 6) (.tmp 41) rfl rfl (w.heap.size + 1 + 1) ht hi_ hu hv rfl rfl _ HZ9.out rfl ?_)
      refine bodyPost_ret (results_cell_row rfl _ _ (w.heap.size + 1 + 1) 33 _ _ _ rfl (setRow_heap _ _ _ _ _ _ HZ9.out) Try.underlying33 rfl hit_size) rfl ?_
      exact ⟨rfl, below_setRow HIN.out.hb (by omega) _⟩

theorem there_notN {m : Msh} {h : Ht} {r : Ry} (e : thereF m h.i = false) : normalF m h r = v0 := by
  unfold thereF at e
  unfold normalF
  split at e
  · rename_i h1; rw [if_pos h1]
  · rename_i h1
    rw [if_neg h1]
    split at e
    · rename_i h2
      rw [if_pos h2]
      unfold cornersF
      rw [if_neg (by omega), if_neg (by rw [e]; exact Bool.false_ne_true)]
    · cases e
theorem there_isN {m : Msh} {h : Ht} {r : Ry} (e : thereF m h.i = true) : normalF m h r = turnF (unitF (if h.i < (m.ts.length : Int) then crossF (map2 subF (ptF m (m.ts.getD h.i.toNat v0).y) (ptF m (m.ts.getD h.i.toNat v0).x)) (map2 subF (ptF m (m.ts.getD h.i.toNat v0).z) (ptF m (m.ts.getD h.i.toNat v0).x)) else map2 subF (map2 addF r.o (map1 (fun x => mulF x h.t) r.d)) (ballAt m h.i).c)) r.d := by
  unfold thereF at e
  unfold normalF
  split at e
  · cases e
  · rename_i h1
    rw [if_neg h1]
    split at e
    · rename_i h2
      rw [if_pos h2]
      unfold cornersF
      rw [if_neg (by omega), if_pos e]
      simp only [if_pos h2]
    · rename_i h2
      rw [if_neg h2]
      simp only [if_neg h2]
set_option maxRecDepth 100000 in
set_option maxHeartbeats 16000000 in
theorem rnormal_any (v : Value) (m : Msh) (w : World) (hm : IsMesh w v m) (ok : m.ok) (hl : m.ts.length + m.bs.length ≤ 9223372036854775807) (h : Ht) (hi : In h.i) (ht_ : In h.t) (r : Ry) (hr : r.ok) : Calls Try.prog 23 #[v, hitV h, rayV r] w (VTo (vecV (normalF m h r)) w) := by
  have CTH := Lib.hid (fun w2 (hb : Below w.heap.size w w2) => rthere_any v m w2 (hm.below hb) hl h.i hi)
  have HN0 := Lib.hid (fun e : thereF m h.i = false => there_notN (r := r) e)
  have HN1 := Lib.hid (fun e : thereF m h.i = true => there_isN (r := r) e)
  obtain ⟨ht, hi_, hu, hv⟩ := h
  dsimp only at hi ht_ CTH HN0 HN1
  obtain ⟨a0, c0, a1, c1, a2, c2, rfl, h0, h1, h2, l0, l1, l2⟩ := hm.open_
  have HOK := Lib.hid ok
  have HRK := Lib.hid hr
  have HTK := Lib.hid ht_
  have HIN := Lib.hid hi
  have HPS0_ := Lib.hid h0
  have HTS0_ := Lib.hid h1
  have HBS0_ := Lib.hid h2
  obtain ⟨⟨oX, oY, oZ⟩, ⟨dX, dY, dZ⟩⟩ := r
  dsimp only [rayV, hitV] at *
  obtain ⟨hA, hB_, hC, hD, hB0⟩ := al4 w (.cells #[.slice a0 m.ps.length c0, .slice a1 m.ts.length c1, .slice a2 m.bs.length c2] 44) (.cells #[.int .i64 ht, .int .i64 hi_, .int .i64 hu, .int .i64 hv] 33) (.cells #[.int .i64 oX, .int .i64 oY, .int .i64 oZ, .int .i64 dX, .int .i64 dY, .int .i64 dZ] 25) (.cells #[.int .i64 0, .int .i64 0, .int .i64 0] 23)
  obtain ⟨W, hW⟩ : ∃ ww, ww = (((w.alloc (.cells #[.slice a0 m.ps.length c0, .slice a1 m.ts.length c1, .slice a2 m.bs.length c2] 44)).alloc (.cells #[.int .i64 ht, .int .i64 hi_, .int .i64 hu, .int .i64 hv] 33)).alloc (.cells #[.int .i64 oX, .int .i64 oY, .int .i64 oZ, .int .i64 dX, .int .i64 dY, .int .i64 dZ] 25)).alloc (.cells #[.int .i64 0, .int .i64 0, .int .i64 0] 23) := ⟨_, rfl⟩
  rw [← hW] at hA hB_ hC hD hB0
  have HR0 := Lib.hid hA
  have HH0 := Lib.hid hB_
  have HY0 := Lib.hid hC
  have HZ0 := Lib.hid hD
  have HB0 := Lib.hid hB0
  have HWW := Lib.hid hW
  clear hA hB_ hC hD hB0 hW hm h0 h1 h2 l0 l1 l2 ok hr ht_ hi
  obtain ⟨res, hres⟩ : ∃ zz, zz = normalF m ⟨ht, hi_, hu, hv⟩ ⟨⟨oX, oY, oZ⟩, ⟨dX, dY, dZ⟩⟩ := ⟨_, rfl⟩
  rw [← hres] at HN0 HN1 ⊢
  clear hres
  cases hth : thereF m hi_
  · have hr0 : res = v0 := HN0.out hth
    subst hr0
    unfold v0
    clear HN0 HN1
    rw [hth] at CTH
    go_enter Try.func23, Try.ntmps23
    go_upto_region 1 with (fail)
    rw [← HWW.out]
    clear HWW
    have cHR0 := cell_row HR0.out 0 _ rfl
    have cHR1 := cell_row HR0.out 1 _ rfl
    have cHR2 := cell_row HR0.out 2 _ rfl
    have cHH1 := cell_row HH0.out 1 _ rfl
    go_wp2_with fail
    refine (CTH.out _ HB0.out).mono ?_
    rintro e y2 ⟨rfl, hb⟩
    have HR1 := Lib.hid (vec_step HR0.out hb)
    have HH1 := Lib.hid (vec_step HH0.out hb)
    have HY1 := Lib.hid (vec_step HY0.out hb)
    have HZ1 := Lib.hid (vec_step HZ0.out hb)
    have HB1 := Lib.hid (HB0.out.trans (hb.mono HB0.out.size))
    clear HR0 HH0 HY0 HZ0 HB0 hb cHR0 cHR1 cHR2 cHH1 CTH
    clear hth
    go_wp2_with (with_reducible refine store_vec rfl (.tmp 6) (.tmp 17) rfl rfl (w.heap.size + 1 + 1 + 1) 0 0 0 rfl rfl _ _ _ HZ1.out ?_)
    refine bodyPost_ret (results_cell_row rfl _ _ (w.heap.size + 1 + 1 + 1) 23 _ _ _ rfl (setRow_heap _ _ _ _ _ _ HZ1.out) Try.underlying23 rfl vec_size) rfl ?_
    exact ⟨rfl, below_setRow HB1.out (by omega) _⟩
  · have hres := HN1.out hth
    clear HN0 HN1
    by_cases h2 : hi_ < (m.ts.length : Int)
    · obtain ⟨j, x, y, z, hj, hx, hy, hz, rfl, htt, hg, e1, e2, e3⟩ := there_tri hth h2
      simp only [if_pos h2] at hres
      rw [hg] at hres
      dsimp only at hres
      rw [e1, e2, e3] at hres
      clear hg e1 e2 e3
      have d2 : decide ((j : Int) < (m.ts.length : Int)) = true := decide_eq_true h2
      have dj : decide (j < m.ts.length) = true := decide_eq_true hj
      have HJ := Lib.hid htt
      clear htt h2
      obtain ⟨⟨paX, paY, paZ⟩, hpa⟩ : ∃ zz, zz = m.ps[x] := ⟨_, rfl⟩
      have okpa : (⟨paX, paY, paZ⟩ : V3).ok := by have := HOK.out.ps m.ps[x] (List.getElem_mem hx); rw [← hpa] at this; exact this
      obtain ⟨⟨pbX, pbY, pbZ⟩, hpb⟩ : ∃ zz, zz = m.ps[y] := ⟨_, rfl⟩
      have okpb : (⟨pbX, pbY, pbZ⟩ : V3).ok := by have := HOK.out.ps m.ps[y] (List.getElem_mem hy); rw [← hpb] at this; exact this
      obtain ⟨⟨pcX, pcY, pcZ⟩, hpc⟩ : ∃ zz, zz = m.ps[z] := ⟨_, rfl⟩
      have okpc : (⟨pcX, pcY, pcZ⟩ : V3).ok := by have := HOK.out.ps m.ps[z] (List.getElem_mem hz); rw [← hpc] at this; exact this
      rw [← hpa, ← hpb, ← hpc] at hres
      have HPpa := Lib.hid hpa
      have HPpb := Lib.hid hpb
      have HPpc := Lib.hid hpc
      have DX := Lib.hid hx
      have DY := Lib.hid hy
      have DZ := Lib.hid hz
      obtain ⟨e, he⟩ : ∃ zz, zz = map2 subF ⟨pbX, pbY, pbZ⟩ ⟨paX, paY, paZ⟩ := ⟨_, rfl⟩
      obtain ⟨f, hf⟩ : ∃ zz, zz = map2 subF ⟨pcX, pcY, pcZ⟩ ⟨paX, paY, paZ⟩ := ⟨_, rfl⟩
      obtain ⟨xx, hx_⟩ : ∃ zz, zz = crossF e f := ⟨_, rfl⟩
      obtain ⟨n, hn_⟩ : ∃ zz, zz = unitF xx := ⟨_, rfl⟩
      have HTU : Hid (res = turnF n ⟨dX, dY, dZ⟩) := Lib.hid (by rw [hres, ← he, ← hf, ← hx_, ← hn_])
      have oe : e.ok := by rw [he]; exact ok_map2sub _ _
      have of_ : f.ok := by rw [hf]; exact ok_map2sub _ _
      have ox : xx.ok := by rw [hx_]; exact ok_cross _ _
      have on : n.ok := by rw [hn_]; exact ok_unit _
      have HNK := Lib.hid on
      have C1 : Hid (∀ w2, Calls Try.prog 47 #[vecV ⟨pbX, pbY, pbZ⟩, vecV ⟨paX, paY, paZ⟩] w2 (VTo (vecV e) w2)) := Lib.hid (fun w2 => by have := vrsub_any ⟨pbX, pbY, pbZ⟩ ⟨paX, paY, paZ⟩ okpb okpa w2; rw [← he] at this; exact this)
      have C2 : Hid (∀ w2, Calls Try.prog 47 #[vecV ⟨pcX, pcY, pcZ⟩, vecV ⟨paX, paY, paZ⟩] w2 (VTo (vecV f) w2)) := Lib.hid (fun w2 => by have := vrsub_any ⟨pcX, pcY, pcZ⟩ ⟨paX, paY, paZ⟩ okpc okpa w2; rw [← hf] at this; exact this)
      have C3 : Hid (∀ w2, Calls Try.prog 48 #[vecV e, vecV f] w2 (VTo (vecV xx) w2)) := Lib.hid (fun w2 => by have := vrcross_any e f oe of_ w2; rw [← hx_] at this; exact this)
      have C4 : Hid (∀ w2, Calls Try.prog 57 #[vecV xx] w2 (VTo (vecV n) w2)) := Lib.hid (fun w2 => by have := vrunit_any xx ox w2; rw [← hn_] at this; exact this)
      clear he hf hx_ hn_ oe of_ ox on hres hpa hpb hpc okpa okpb okpc
      obtain ⟨eX, eY, eZ⟩ := e
      obtain ⟨fX, fY, fZ⟩ := f
      obtain ⟨xX, xY, xZ⟩ := xx
      obtain ⟨nX, nY, nZ⟩ := n
      dsimp only [vecV] at *
      rw [hth] at CTH
      go_enter Try.func23, Try.ntmps23
      go_upto_region 1 with (fail)
      rw [← HWW.out]
      clear HWW
      have cHR0 := cell_row HR0.out 0 _ rfl
      have cHR1 := cell_row HR0.out 1 _ rfl
      have cHR2 := cell_row HR0.out 2 _ rfl
      have cHH1 := cell_row HH0.out 1 _ rfl
      go_wp2_with fail
      refine (CTH.out _ HB0.out).mono ?_
      rintro e y3 ⟨rfl, hb⟩
      have HR1 := Lib.hid (vec_step HR0.out hb)
      have HH1 := Lib.hid (vec_step HH0.out hb)
      have HY1 := Lib.hid (vec_step HY0.out hb)
      have HZ1 := Lib.hid (vec_step HZ0.out hb)
      have HB1 := Lib.hid (HB0.out.trans (hb.mono HB0.out.size))
      clear HR0 HH0 HY0 HZ0 HB0 hb cHR0 cHR1 cHR2 cHH1 CTH
      clear hth
      go_upto_region 4 with (fail)
      have HGE := Lib.hid (Base.lt_of_heap HZ1.out)
      have hx := ext_alloc y3 (.cells #[.int .i64 0, .int .i64 0, .int .i64 0] 23)
      have hn := heap_alloc_new y3 (.cells #[.int .i64 0, .int .i64 0, .int .i64 0] 23)
      obtain ⟨y4, hW⟩ : ∃ ww, ww = y3.alloc (.cells #[.int .i64 0, .int .i64 0, .int .i64 0] 23) := ⟨_, rfl⟩
      rw [← hW] at hx hn ⊢
      clear hW
      have HR2 := Lib.hid (vec_step HR1.out hx)
      have HH2 := Lib.hid (vec_step HH1.out hx)
      have HY2 := Lib.hid (vec_step HY1.out hx)
      have HZ2 := Lib.hid (vec_step HZ1.out hx)
      have HB2 := Lib.hid (HB1.out.trans (hx.mono HB1.out.size))
      clear HR1 HH1 HY1 HZ1 HB1 hx  
      have HV2 := Lib.hid (hn)
      clear hn
      generalize y3.heap.size = gHV at HV2 HGE ⊢
      have cHR1 := cell_row HR2.out 1 _ rfl
      have cHH1 := cell_row HH2.out 1 _ rfl
      obtain ⟨b, off, e, hbl, p0_, p1_, p2_⟩ := at3 (HTS0_.out.below HB2.out (Nat.le_refl _)) j hj
      subst e
      rw [HJ.out] at p0_ p1_ p2_
      dsimp only at p0_ p1_ p2_
      clear hbl
      go_upto_region 6 with (fail)
      clear cHR1 cHH1
      have hx := ext_alloc y4 (.cells #[.int .i64 (x : Int), .int .i64 (y : Int), .int .i64 (z : Int)] 46)
      have hn := heap_alloc_new y4 (.cells #[.int .i64 (x : Int), .int .i64 (y : Int), .int .i64 (z : Int)] 46)
      obtain ⟨y5, hW⟩ : ∃ ww, ww = y4.alloc (.cells #[.int .i64 (x : Int), .int .i64 (y : Int), .int .i64 (z : Int)] 46) := ⟨_, rfl⟩
      rw [← hW] at hx hn ⊢
      clear hW
      have HR3 := Lib.hid (vec_step HR2.out hx)
      have HH3 := Lib.hid (vec_step HH2.out hx)
      have HY3 := Lib.hid (vec_step HY2.out hx)
      have HZ3 := Lib.hid (vec_step HZ2.out hx)
      have HB3 := Lib.hid (HB2.out.trans (hx.mono HB2.out.size))
      have HV3 := Lib.hid (vec_step HV2.out hx)
      clear HR2 HH2 HY2 HZ2 HB2 HV2 hx  
      have HT3 := Lib.hid (hn)
      clear hn
      generalize y4.heap.size = gHT at HT3 ⊢
      clear p0_ p1_ p2_
      obtain ⟨b4, off4, e4, -, -, -, -⟩ := at3 HPS0_.out x DX.out
      subst e4
      have K0 := Lib.hid (fun W9 (hb : Below y5.heap.size y5 W9) => cell_all (vec_step HR3.out hb) 0 _ rfl)
      have KT := Lib.hid (fun W9 (hb : Below y5.heap.size y5 W9) => cells3 (vec_step HT3.out hb))
      have HPS4 := Lib.hid (HPS0_.out.below HB3.out (Nat.le_refl _))
      have Kpa : Hid (∀ W9, Below y5.heap.size y5 W9 → (∀ d os, (grow (redrawn W9 d) os).cell? ⟨b4, off4 + x * 3, none⟩ = some (.int .i64 paX)) ∧ (∀ d os, (grow (redrawn W9 d) os).cell? ⟨b4, off4 + x * 3 + 1, none⟩ = some (.int .i64 paY)) ∧ (∀ d os, (grow (redrawn W9 d) os).cell? ⟨b4, off4 + x * 3 + 2, none⟩ = some (.int .i64 paZ))) := by
        refine Lib.hid (fun W9 hb => ?_)
        obtain ⟨b5, off5, e5, _, q0, q1, q2⟩ := at3 (HPS4.out.below hb (Nat.le_refl _)) x DX.out
        simp only [Option.some.injEq, Addr.mk.injEq, and_true] at e5
        obtain ⟨rfl, rfl⟩ := e5
        rw [← HPpa.out] at q0 q1 q2
        exact ⟨fun d os => cell_regrown q0 d os, fun d os => cell_regrown q1 d os, fun d os => cell_regrown q2 d os⟩
      have Kpb : Hid (∀ W9, Below y5.heap.size y5 W9 → (∀ d os, (grow (redrawn W9 d) os).cell? ⟨b4, off4 + y * 3, none⟩ = some (.int .i64 pbX)) ∧ (∀ d os, (grow (redrawn W9 d) os).cell? ⟨b4, off4 + y * 3 + 1, none⟩ = some (.int .i64 pbY)) ∧ (∀ d os, (grow (redrawn W9 d) os).cell? ⟨b4, off4 + y * 3 + 2, none⟩ = some (.int .i64 pbZ))) := by
        refine Lib.hid (fun W9 hb => ?_)
        obtain ⟨b5, off5, e5, _, q0, q1, q2⟩ := at3 (HPS4.out.below hb (Nat.le_refl _)) y DY.out
        simp only [Option.some.injEq, Addr.mk.injEq, and_true] at e5
        obtain ⟨rfl, rfl⟩ := e5
        rw [← HPpb.out] at q0 q1 q2
        exact ⟨fun d os => cell_regrown q0 d os, fun d os => cell_regrown q1 d os, fun d os => cell_regrown q2 d os⟩
      have Kpc : Hid (∀ W9, Below y5.heap.size y5 W9 → (∀ d os, (grow (redrawn W9 d) os).cell? ⟨b4, off4 + z * 3, none⟩ = some (.int .i64 pcX)) ∧ (∀ d os, (grow (redrawn W9 d) os).cell? ⟨b4, off4 + z * 3 + 1, none⟩ = some (.int .i64 pcY)) ∧ (∀ d os, (grow (redrawn W9 d) os).cell? ⟨b4, off4 + z * 3 + 2, none⟩ = some (.int .i64 pcZ))) := by
        refine Lib.hid (fun W9 hb => ?_)
        obtain ⟨b5, off5, e5, _, q0, q1, q2⟩ := at3 (HPS4.out.below hb (Nat.le_refl _)) z DZ.out
        simp only [Option.some.injEq, Addr.mk.injEq, and_true] at e5
        obtain ⟨rfl, rfl⟩ := e5
        rw [← HPpc.out] at q0 q1 q2
        exact ⟨fun d os => cell_regrown q0 d os, fun d os => cell_regrown q1 d os, fun d os => cell_regrown q2 d os⟩
      have QA := Lib.hid (fun W => qb (P := Try.prog) (W := W) (fun w2 _ => C1.out w2))
      refine wp_region_free 90 [0, 1, 2, 3, 4, 5, 6, 7, 8, 9, 10, 11, 12] [⟨13, 9, #[.int .i64 0, .int .i64 0, .int .i64 0], 23, 14, 42, #[.int .i64 eX, .int .i64 eY, .int .i64 eZ]⟩] (by kernel_rfl) rfl (by kernel_rfl) (by
        intro x hx
        simp only [List.mem_cons, List.not_mem_nil, or_false] at hx
        subst hx
        exact ⟨⟨_, rfl, ⟨⟨_, rfl, HitT.alloc_vec⟩, rfl, rfl⟩⟩, _, rfl, ⟨⟨_, rfl, vec_size⟩, rfl, rfl, rfl, row_one _ _ _⟩⟩) ?_
      refine Walk.step (A := ?A1) (o := ?o1) ?e1 ?w1 30 ?d1 (by simp) ?h1 ?n1
      case e1 => simp only [List.getElem?_toArray, List.getElem?_cons_succ, List.getElem?_cons_zero]; exact rfl
      case w1 => exact rfl
      case d1 => exact rfl
      case h1 =>
        intro W9 hW9
        go_big_quiet_op
        exact rfl
      refine Walk.step (A := ?A2) (o := ?o2) ?e2 ?w2 31 ?d2 (by simp) ?h2 ?n2
      case e2 => simp only [List.getElem?_toArray, List.getElem?_cons_succ, List.getElem?_cons_zero]; exact rfl
      case w2 => exact rfl
      case d2 => exact rfl
      case h2 =>
        intro W9 hW9
        have z0 := K0.out W9 hW9
        go_big_quiet_op
        exact rfl
      refine Walk.step (A := ?A3) (o := ?o3) ?e3 ?w3 32 ?d3 (by simp) ?h3 ?n3
      case e3 => simp only [List.getElem?_toArray, List.getElem?_cons_succ, List.getElem?_cons_zero]; exact rfl
      case w3 => exact rfl
      case d3 => exact rfl
      case h3 =>
        intro W9 hW9
        go_big_quiet_op
        exact rfl
      refine Walk.step (A := ?A4) (o := ?o4) ?e4 ?w4 33 ?d4 (by simp) ?h4 ?n4
      case e4 => simp only [List.getElem?_toArray, List.getElem?_cons_succ, List.getElem?_cons_zero]; exact rfl
      case w4 => exact rfl
      case d4 => exact rfl
      case h4 =>
        intro W9 hW9
        obtain ⟨z0, z1, z2⟩ := KT.out W9 hW9
        go_big_quiet_op
        exact rfl
      refine Walk.step (A := ?A5) (o := ?o5) ?e5 ?w5 34 ?d5 (by simp) ?h5 ?n5
      case e5 => simp only [List.getElem?_toArray, List.getElem?_cons_succ, List.getElem?_cons_zero]; exact rfl
      case w5 => exact rfl
      case d5 => exact rfl
      case h5 =>
        intro W9 hW9
        have z0 := DY.out
        go_big_quiet_op
        exact rfl
      refine Walk.step (A := ?A6) (o := ?o6) ?e6 ?w6 35 ?d6 (by simp) ?h6 ?n6
      case e6 => simp only [List.getElem?_toArray, List.getElem?_cons_succ, List.getElem?_cons_zero]; exact rfl
      case w6 => exact rfl
      case d6 => exact rfl
      case h6 =>
        intro W9 hW9
        obtain ⟨z0, z1, z2⟩ := Kpb.out W9 hW9
        go_big_quiet_op
        exact rfl
      refine Walk.step (A := ?A7) (o := ?o7) ?e7 ?w7 36 ?d7 (by simp) ?h7 ?n7
      case e7 => simp only [List.getElem?_toArray, List.getElem?_cons_succ, List.getElem?_cons_zero]; exact rfl
      case w7 => exact rfl
      case d7 => exact rfl
      case h7 =>
        intro W9 hW9
        go_big_quiet_op
        exact rfl
      refine Walk.step (A := ?A8) (o := ?o8) ?e8 ?w8 37 ?d8 (by simp) ?h8 ?n8
      case e8 => simp only [List.getElem?_toArray, List.getElem?_cons_succ, List.getElem?_cons_zero]; exact rfl
      case w8 => exact rfl
      case d8 => exact rfl
      case h8 =>
        intro W9 hW9
        have z0 := K0.out W9 hW9
        go_big_quiet_op
        exact rfl
      refine Walk.step (A := ?A9) (o := ?o9) ?e9 ?w9 38 ?d9 (by simp) ?h9 ?n9
      case e9 => simp only [List.getElem?_toArray, List.getElem?_cons_succ, List.getElem?_cons_zero]; exact rfl
      case w9 => exact rfl
      case d9 => exact rfl
      case h9 =>
        intro W9 hW9
        go_big_quiet_op
        exact rfl
      refine Walk.step (A := ?A10) (o := ?o10) ?e10 ?w10 39 ?d10 (by simp) ?h10 ?n10
      case e10 => simp only [List.getElem?_toArray, List.getElem?_cons_succ, List.getElem?_cons_zero]; exact rfl
      case w10 => exact rfl
      case d10 => exact rfl
      case h10 =>
        intro W9 hW9
        obtain ⟨z0, z1, z2⟩ := KT.out W9 hW9
        go_big_quiet_op
        exact rfl
      refine Walk.step (A := ?A11) (o := ?o11) ?e11 ?w11 40 ?d11 (by simp) ?h11 ?n11
      case e11 => simp only [List.getElem?_toArray, List.getElem?_cons_succ, List.getElem?_cons_zero]; exact rfl
      case w11 => exact rfl
      case d11 => exact rfl
      case h11 =>
        intro W9 hW9
        have z0 := DX.out
        go_big_quiet_op
        exact rfl
      refine Walk.step (A := ?A12) (o := ?o12) ?e12 ?w12 41 ?d12 (by simp) ?h12 ?n12
      case e12 => simp only [List.getElem?_toArray, List.getElem?_cons_succ, List.getElem?_cons_zero]; exact rfl
      case w12 => exact rfl
      case d12 => exact rfl
      case h12 =>
        intro W9 hW9
        obtain ⟨z0, z1, z2⟩ := Kpa.out W9 hW9
        go_big_quiet_op
        exact rfl
      refine Walk.step (A := ?A13) (o := ?o13) ?e13 ?w13 42 ?d13 (by simp) ?h13 ?n13
      case e13 => simp only [List.getElem?_toArray, List.getElem?_cons_succ, List.getElem?_cons_zero]; exact rfl
      case w13 => exact rfl
      case d13 => exact rfl
      case h13 =>
        intro W9 hW9
        go_big_quiet_op
        apply Exists.intro
        refine ⟨fun _ => ?_, ?_⟩
        · with_reducible exact QA.out _ _ _
        exact rfl
      refine ⟨?_, ?_⟩
      · intro x hx
        simp only [List.mem_cons, List.not_mem_nil, or_false] at hx
        subst hx
        rfl
      intro G hG hne y6 hb hk
      have k7 := hk _ (List.mem_cons_self ..)
      dsimp only at k7
      simp only [lay, Act.put, List.setIfInBounds_toArray, List.set_cons_succ, List.set_cons_zero, ptr]
      generalize G 13 = gHE at k7 ⊢
      clear hG hne hk QA C1 K0 KT Kpa Kpb Kpc HPS4
      have HR4 := Lib.hid (vec_step HR3.out hb)
      have HH4 := Lib.hid (vec_step HH3.out hb)
      have HY4 := Lib.hid (vec_step HY3.out hb)
      have HZ4 := Lib.hid (vec_step HZ3.out hb)
      have HB4 := Lib.hid (HB3.out.trans (hb.mono HB3.out.size))
      have HV4 := Lib.hid (vec_step HV3.out hb)
      have HT4 := Lib.hid (vec_step HT3.out hb)
      clear HR3 HH3 HY3 HZ3 HB3 HV3 HT3 hb  
      have HE4 := Lib.hid (k7)
      clear k7
      go_upto_region 7 with (fail)
      have K0 := Lib.hid (fun W9 (hb : Below y6.heap.size y6 W9) => cell_all (vec_step HR4.out hb) 0 _ rfl)
      have KT := Lib.hid (fun W9 (hb : Below y6.heap.size y6 W9) => cells3 (vec_step HT4.out hb))
      have HPS4 := Lib.hid (HPS0_.out.below HB4.out (Nat.le_refl _))
      have Kpa : Hid (∀ W9, Below y6.heap.size y6 W9 → (∀ d os, (grow (redrawn W9 d) os).cell? ⟨b4, off4 + x * 3, none⟩ = some (.int .i64 paX)) ∧ (∀ d os, (grow (redrawn W9 d) os).cell? ⟨b4, off4 + x * 3 + 1, none⟩ = some (.int .i64 paY)) ∧ (∀ d os, (grow (redrawn W9 d) os).cell? ⟨b4, off4 + x * 3 + 2, none⟩ = some (.int .i64 paZ))) := by
        refine Lib.hid (fun W9 hb => ?_)
        obtain ⟨b5, off5, e5, _, q0, q1, q2⟩ := at3 (HPS4.out.below hb (Nat.le_refl _)) x DX.out
        simp only [Option.some.injEq, Addr.mk.injEq, and_true] at e5
        obtain ⟨rfl, rfl⟩ := e5
        rw [← HPpa.out] at q0 q1 q2
        exact ⟨fun d os => cell_regrown q0 d os, fun d os => cell_regrown q1 d os, fun d os => cell_regrown q2 d os⟩
      have Kpb : Hid (∀ W9, Below y6.heap.size y6 W9 → (∀ d os, (grow (redrawn W9 d) os).cell? ⟨b4, off4 + y * 3, none⟩ = some (.int .i64 pbX)) ∧ (∀ d os, (grow (redrawn W9 d) os).cell? ⟨b4, off4 + y * 3 + 1, none⟩ = some (.int .i64 pbY)) ∧ (∀ d os, (grow (redrawn W9 d) os).cell? ⟨b4, off4 + y * 3 + 2, none⟩ = some (.int .i64 pbZ))) := by
        refine Lib.hid (fun W9 hb => ?_)
        obtain ⟨b5, off5, e5, _, q0, q1, q2⟩ := at3 (HPS4.out.below hb (Nat.le_refl _)) y DY.out
        simp only [Option.some.injEq, Addr.mk.injEq, and_true] at e5
        obtain ⟨rfl, rfl⟩ := e5
        rw [← HPpb.out] at q0 q1 q2
        exact ⟨fun d os => cell_regrown q0 d os, fun d os => cell_regrown q1 d os, fun d os => cell_regrown q2 d os⟩
      have Kpc : Hid (∀ W9, Below y6.heap.size y6 W9 → (∀ d os, (grow (redrawn W9 d) os).cell? ⟨b4, off4 + z * 3, none⟩ = some (.int .i64 pcX)) ∧ (∀ d os, (grow (redrawn W9 d) os).cell? ⟨b4, off4 + z * 3 + 1, none⟩ = some (.int .i64 pcY)) ∧ (∀ d os, (grow (redrawn W9 d) os).cell? ⟨b4, off4 + z * 3 + 2, none⟩ = some (.int .i64 pcZ))) := by
        refine Lib.hid (fun W9 hb => ?_)
        obtain ⟨b5, off5, e5, _, q0, q1, q2⟩ := at3 (HPS4.out.below hb (Nat.le_refl _)) z DZ.out
        simp only [Option.some.injEq, Addr.mk.injEq, and_true] at e5
        obtain ⟨rfl, rfl⟩ := e5
        rw [← HPpc.out] at q0 q1 q2
        exact ⟨fun d os => cell_regrown q0 d os, fun d os => cell_regrown q1 d os, fun d os => cell_regrown q2 d os⟩
      have QB := Lib.hid (fun W => qb (P := Try.prog) (W := W) (fun w2 _ => C2.out w2))
      refine wp_region_free 90 [0, 1, 2, 3, 4, 5, 6, 7, 8, 9, 10, 11, 12] [⟨13, 10, #[.int .i64 0, .int .i64 0, .int .i64 0], 23, 14, 55, #[.int .i64 fX, .int .i64 fY, .int .i64 fZ]⟩] (by kernel_rfl) rfl (by kernel_rfl) (by
        intro x hx
        simp only [List.mem_cons, List.not_mem_nil, or_false] at hx
        subst hx
        exact ⟨⟨_, rfl, ⟨⟨_, rfl, HitT.alloc_vec⟩, rfl, rfl⟩⟩, _, rfl, ⟨⟨_, rfl, vec_size⟩, rfl, rfl, rfl, row_one _ _ _⟩⟩) ?_
      refine Walk.step (A := ?A14) (o := ?o14) ?e14 ?w14 43 ?d14 (by simp) ?h14 ?n14
      case e14 => simp only [List.getElem?_toArray, List.getElem?_cons_succ, List.getElem?_cons_zero]; exact rfl
      case w14 => exact rfl
      case d14 => exact rfl
      case h14 =>
        intro W9 hW9
        go_big_quiet_op
        exact rfl
      refine Walk.step (A := ?A15) (o := ?o15) ?e15 ?w15 44 ?d15 (by simp) ?h15 ?n15
      case e15 => simp only [List.getElem?_toArray, List.getElem?_cons_succ, List.getElem?_cons_zero]; exact rfl
      case w15 => exact rfl
      case d15 => exact rfl
      case h15 =>
        intro W9 hW9
        have z0 := K0.out W9 hW9
        go_big_quiet_op
        exact rfl
      refine Walk.step (A := ?A16) (o := ?o16) ?e16 ?w16 45 ?d16 (by simp) ?h16 ?n16
      case e16 => simp only [List.getElem?_toArray, List.getElem?_cons_succ, List.getElem?_cons_zero]; exact rfl
      case w16 => exact rfl
      case d16 => exact rfl
      case h16 =>
        intro W9 hW9
        go_big_quiet_op
        exact rfl
      refine Walk.step (A := ?A17) (o := ?o17) ?e17 ?w17 46 ?d17 (by simp) ?h17 ?n17
      case e17 => simp only [List.getElem?_toArray, List.getElem?_cons_succ, List.getElem?_cons_zero]; exact rfl
      case w17 => exact rfl
      case d17 => exact rfl
      case h17 =>
        intro W9 hW9
        obtain ⟨z0, z1, z2⟩ := KT.out W9 hW9
        go_big_quiet_op
        exact rfl
      refine Walk.step (A := ?A18) (o := ?o18) ?e18 ?w18 47 ?d18 (by simp) ?h18 ?n18
      case e18 => simp only [List.getElem?_toArray, List.getElem?_cons_succ, List.getElem?_cons_zero]; exact rfl
      case w18 => exact rfl
      case d18 => exact rfl
      case h18 =>
        intro W9 hW9
        have z0 := DZ.out
        go_big_quiet_op
        exact rfl
      refine Walk.step (A := ?A19) (o := ?o19) ?e19 ?w19 48 ?d19 (by simp) ?h19 ?n19
      case e19 => simp only [List.getElem?_toArray, List.getElem?_cons_succ, List.getElem?_cons_zero]; exact rfl
      case w19 => exact rfl
      case d19 => exact rfl
      case h19 =>
        intro W9 hW9
        obtain ⟨z0, z1, z2⟩ := Kpc.out W9 hW9
        go_big_quiet_op
        exact rfl
      refine Walk.step (A := ?A20) (o := ?o20) ?e20 ?w20 49 ?d20 (by simp) ?h20 ?n20
      case e20 => simp only [List.getElem?_toArray, List.getElem?_cons_succ, List.getElem?_cons_zero]; exact rfl
      case w20 => exact rfl
      case d20 => exact rfl
      case h20 =>
        intro W9 hW9
        go_big_quiet_op
        exact rfl
      refine Walk.step (A := ?A21) (o := ?o21) ?e21 ?w21 50 ?d21 (by simp) ?h21 ?n21
      case e21 => simp only [List.getElem?_toArray, List.getElem?_cons_succ, List.getElem?_cons_zero]; exact rfl
      case w21 => exact rfl
      case d21 => exact rfl
      case h21 =>
        intro W9 hW9
        have z0 := K0.out W9 hW9
        go_big_quiet_op
        exact rfl
      refine Walk.step (A := ?A22) (o := ?o22) ?e22 ?w22 51 ?d22 (by simp) ?h22 ?n22
      case e22 => simp only [List.getElem?_toArray, List.getElem?_cons_succ, List.getElem?_cons_zero]; exact rfl
      case w22 => exact rfl
      case d22 => exact rfl
      case h22 =>
        intro W9 hW9
        go_big_quiet_op
        exact rfl
      refine Walk.step (A := ?A23) (o := ?o23) ?e23 ?w23 52 ?d23 (by simp) ?h23 ?n23
      case e23 => simp only [List.getElem?_toArray, List.getElem?_cons_succ, List.getElem?_cons_zero]; exact rfl
      case w23 => exact rfl
      case d23 => exact rfl
      case h23 =>
        intro W9 hW9
        obtain ⟨z0, z1, z2⟩ := KT.out W9 hW9
        go_big_quiet_op
        exact rfl
      refine Walk.step (A := ?A24) (o := ?o24) ?e24 ?w24 53 ?d24 (by simp) ?h24 ?n24
      case e24 => simp only [List.getElem?_toArray, List.getElem?_cons_succ, List.getElem?_cons_zero]; exact rfl
      case w24 => exact rfl
      case d24 => exact rfl
      case h24 =>
        intro W9 hW9
        have z0 := DX.out
        go_big_quiet_op
        exact rfl
      refine Walk.step (A := ?A25) (o := ?o25) ?e25 ?w25 54 ?d25 (by simp) ?h25 ?n25
      case e25 => simp only [List.getElem?_toArray, List.getElem?_cons_succ, List.getElem?_cons_zero]; exact rfl
      case w25 => exact rfl
      case d25 => exact rfl
      case h25 =>
        intro W9 hW9
        obtain ⟨z0, z1, z2⟩ := Kpa.out W9 hW9
        go_big_quiet_op
        exact rfl
      refine Walk.step (A := ?A26) (o := ?o26) ?e26 ?w26 55 ?d26 (by simp) ?h26 ?n26
      case e26 => simp only [List.getElem?_toArray, List.getElem?_cons_succ, List.getElem?_cons_zero]; exact rfl
      case w26 => exact rfl
      case d26 => exact rfl
      case h26 =>
        intro W9 hW9
        go_big_quiet_op
        apply Exists.intro
        refine ⟨fun _ => ?_, ?_⟩
        · with_reducible exact QB.out _ _ _
        exact rfl
      refine ⟨?_, ?_⟩
      · intro x hx
        simp only [List.mem_cons, List.not_mem_nil, or_false] at hx
        subst hx
        rfl
      intro G hG hne y7 hb hk
      have k7 := hk _ (List.mem_cons_self ..)
      dsimp only at k7
      simp only [lay, Act.put, List.setIfInBounds_toArray, List.set_cons_succ, List.set_cons_zero, ptr]
      generalize G 13 = gHF at k7 ⊢
      clear hG hne hk QB C2 K0 KT Kpa Kpb Kpc HPS4
      have HR5 := Lib.hid (vec_step HR4.out hb)
      have HH5 := Lib.hid (vec_step HH4.out hb)
      have HY5 := Lib.hid (vec_step HY4.out hb)
      have HZ5 := Lib.hid (vec_step HZ4.out hb)
      have HB5 := Lib.hid (HB4.out.trans (hb.mono HB4.out.size))
      have HV5 := Lib.hid (vec_step HV4.out hb)
      have HT5 := Lib.hid (vec_step HT4.out hb)
      have HE5 := Lib.hid (vec_step HE4.out hb)
      clear HR4 HH4 HY4 HZ4 HB4 HV4 HT4 HE4 hb  
      have HF5 := Lib.hid (k7)
      clear k7
      have cHE0 := cell_row HE5.out 0 _ rfl
      have cHE1 := cell_row HE5.out 1 _ rfl
      have cHE2 := cell_row HE5.out 2 _ rfl
      have cHF0 := cell_row HF5.out 0 _ rfl
      have cHF1 := cell_row HF5.out 1 _ rfl
      have cHF2 := cell_row HF5.out 2 _ rfl
      go_wp2_with fail
      refine (C3.out _).mono ?_
      rintro e y8 ⟨rfl, hb⟩
      have HR6 := Lib.hid (vec_step HR5.out hb)
      have HH6 := Lib.hid (vec_step HH5.out hb)
      have HY6 := Lib.hid (vec_step HY5.out hb)
      have HZ6 := Lib.hid (vec_step HZ5.out hb)
      have HB6 := Lib.hid (HB5.out.trans (hb.mono HB5.out.size))
      have HV6 := Lib.hid (vec_step HV5.out hb)
      have HT6 := Lib.hid (vec_step HT5.out hb)
      have HE6 := Lib.hid (vec_step HE5.out hb)
      have HF6 := Lib.hid (vec_step HF5.out hb)
      clear HR5 HH5 HY5 HZ5 HB5 HV5 HT5 HE5 HF5 hb cHE0 cHE1 cHE2 cHF0 cHF1 cHF2 C3
      go_wp2_with fail
      refine (C4.out _).mono ?_
      rintro e y9 ⟨rfl, hb⟩
      have HR7 := Lib.hid (vec_step HR6.out hb)
      have HH7 := Lib.hid (vec_step HH6.out hb)
      have HY7 := Lib.hid (vec_step HY6.out hb)
      have HZ7 := Lib.hid (vec_step HZ6.out hb)
      have HB7 := Lib.hid (HB6.out.trans (hb.mono HB6.out.size))
      have HV7 := Lib.hid (vec_step HV6.out hb)
      have HT7 := Lib.hid (vec_step HT6.out hb)
      have HE7 := Lib.hid (vec_step HE6.out hb)
      have HF7 := Lib.hid (vec_step HF6.out hb)
      clear HR6 HH6 HY6 HZ6 HB6 HV6 HT6 HE6 HF6 hb  C4
      go_upto_region 11 with (with_reducible refine store_vec rfl (.tmp 7) (.tmp 59) rfl rfl gHV nX nY nZ rfl rfl _ _ _ HV7.out ?_)
      have HZ80 := Lib.hid ((setRow_other y9 gHV (w.heap.size + 1 + 1 + 1) #[.int .i64 nX, .int .i64 nY, .int .i64 nZ] (by have := HGE.out; omega)).trans HZ7.out)
      have HY80 := Lib.hid ((setRow_other y9 gHV (w.heap.size + 1 + 1) #[.int .i64 nX, .int .i64 nY, .int .i64 nZ] (by have := HGE.out; omega)).trans HY7.out)
      have HV80 := Lib.hid (setRow_heap y9 gHV _ #[.int .i64 nX, .int .i64 nY, .int .i64 nZ] _ _ HV7.out)
      have HB80 := Lib.hid (below_setRow HB7.out (show w.heap.size ≤ gHV by have := HGE.out; omega) #[.int .i64 nX, .int .i64 nY, .int .i64 nZ])
      obtain ⟨y10, hW8⟩ : ∃ ww, ww = y9.setRow gHV #[.int .i64 nX, .int .i64 nY, .int .i64 nZ] := ⟨_, rfl⟩
      rw [← hW8] at HZ80 HY80 HV80 HB80 ⊢
      clear hW8  HR7 HH7 HY7 HZ7 HB7 HV7 HT7 HE7 HF7
      obtain ⟨dt, hdt⟩ : ∃ zz, zz = dotF ⟨nX, nY, nZ⟩ ⟨dX, dY, dZ⟩ := ⟨_, rfl⟩
      have CDT : Hid (∀ w2, Calls Try.prog 49 #[.agg #[.int .i64 nX, .int .i64 nY, .int .i64 nZ], .agg #[.int .i64 dX, .int .i64 dY, .int .i64 dZ]] w2 (VTo (.int .i64 dt) w2)) := Lib.hid (fun w2 => by have := vrdot_any ⟨nX, nY, nZ⟩ ⟨dX, dY, dZ⟩ HNK.out HRK.out.2 w2; rw [← hdt] at this; exact this)
      have HT2 : Hid (res = if 0 < dt then map1 negF ⟨nX, nY, nZ⟩ else ⟨nX, nY, nZ⟩) := Lib.hid (by rw [HTU.out]; unfold turnF; rw [← hdt])
      clear hdt HTU
      have cHV0 := cell_row HV80.out 0 _ rfl
      have cHV1 := cell_row HV80.out 1 _ rfl
      have cHV2 := cell_row HV80.out 2 _ rfl
      have cHY3 := cell_row HY80.out 3 _ rfl
      have cHY4 := cell_row HY80.out 4 _ rfl
      have cHY5 := cell_row HY80.out 5 _ rfl
      go_wp2_with fail
      refine (CDT.out _).mono ?_
      rintro e y11 ⟨rfl, hb⟩
      have HZ81 := Lib.hid (vec_step HZ80.out hb)
      have HY81 := Lib.hid (vec_step HY80.out hb)
      have HV81 := Lib.hid (vec_step HV80.out hb)
      have HB81 := Lib.hid (HB80.out.trans (hb.mono HB80.out.size))
      clear HZ80 HY80 HV80 HB80 hb cHV0 cHV1 cHV2 cHY3 cHY4 cHY5 CDT
      by_cases h5 : 0 < dt
      · have d5 : decide (0 < dt) = true := decide_eq_true h5
        have hr0 : res = map1 negF ⟨nX, nY, nZ⟩ := by rw [HT2.out, if_pos h5]
        obtain ⟨⟨mX, mY, mZ⟩, hmm⟩ : ∃ zz, zz = map1 negF ⟨nX, nY, nZ⟩ := ⟨_, rfl⟩
        have CNG : Hid (∀ w2, Calls Try.prog 60 #[.agg #[.int .i64 nX, .int .i64 nY, .int .i64 nZ]] w2 (VTo (.agg #[.int .i64 mX, .int .i64 mY, .int .i64 mZ]) w2)) := Lib.hid (fun w2 => by have := vrneg_any ⟨nX, nY, nZ⟩ HNK.out w2; rw [← hmm] at this; exact this)
        rw [← hmm] at hr0
        subst hr0
        clear hmm HT2
        have cHV0 := cell_row HV81.out 0 _ rfl
        have cHV1 := cell_row HV81.out 1 _ rfl
        have cHV2 := cell_row HV81.out 2 _ rfl
        go_wp2_with fail
        refine (CNG.out _).mono ?_
        rintro e y12 ⟨rfl, hb⟩
        have HZ82 := Lib.hid (vec_step HZ81.out hb)
        have HY82 := Lib.hid (vec_step HY81.out hb)
        have HV82 := Lib.hid (vec_step HV81.out hb)
        have HB82 := Lib.hid (HB81.out.trans (hb.mono HB81.out.size))
        clear HZ81 HY81 HV81 HB81 hb cHV0 cHV1 cHV2 CNG
        go_wp2_with (with_reducible refine store_vec rfl (.tmp 6) (.tmp 88) rfl rfl (w.heap.size + 1 + 1 + 1) mX mY mZ rfl rfl _ _ _ HZ82.out ?_)
        refine bodyPost_ret (results_cell_row rfl _ _ (w.heap.size + 1 + 1 + 1) 23 _ _ _ rfl (setRow_heap _ _ _ _ _ _ HZ82.out) Try.underlying23 rfl vec_size) rfl ?_
        exact ⟨rfl, below_setRow HB82.out (by omega) _⟩
      · have d5 : decide (0 < dt) = false := decide_eq_false h5
        have hr0 : res = ⟨nX, nY, nZ⟩ := by rw [HT2.out, if_neg h5]
        subst hr0
        clear HT2
        have cHV0 := cell_row HV81.out 0 _ rfl
        have cHV1 := cell_row HV81.out 1 _ rfl
        have cHV2 := cell_row HV81.out 2 _ rfl
        go_wp2_with (with_reducible refine store_vec rfl (.tmp 6) (.tmp 89) rfl rfl (w.heap.size + 1 + 1 + 1) nX nY nZ rfl rfl _ _ _ HZ81.out ?_)
        refine bodyPost_ret (results_cell_row rfl _ _ (w.heap.size + 1 + 1 + 1) 23 _ _ _ rfl (setRow_heap _ _ _ _ _ _ HZ81.out) Try.underlying23 rfl vec_size) rfl ?_
        exact ⟨rfl, below_setRow HB81.out (by omega) _⟩
    · obtain ⟨j, hj, hij, hba⟩ := there_ball hth h2
      simp only [if_neg h2] at hres
      have d2 : decide (hi_ < (m.ts.length : Int)) = false := decide_eq_false h2
      have wr_ : IntKind.i64.wrap (hi_ - (m.ts.length : Int)) = (j : Int) := by have := HIN.out; unfold In at this; rw [wrap_in (by omega) (by omega)]; omega
      have hjd : decide (j < m.bs.length) = true := decide_eq_true hj
      have hjd2 : decide ((j : Int) < (m.bs.length : Int)) = true := decide_eq_true (by omega)
      obtain ⟨⟨⟨bX, bY, bZ⟩, br⟩, hbj⟩ : ∃ zz, zz = m.bs[j] := ⟨_, rfl⟩
      have okj : (⟨bX, bY, bZ⟩ : V3).ok ∧ In br := by have := HOK.out.bs m.bs[j] (List.getElem_mem hj); rw [← hbj] at this; exact this
      have HBO := Lib.hid okj.1
      rw [hba, ← hbj] at hres
      have HBJ := Lib.hid (fun h : j < m.bs.length => (hbj.symm : m.bs[j]'h = _))
      dsimp only at hres
      clear okj hbj hij hba h2
      obtain ⟨e, he⟩ : ∃ zz, zz = map1 (fun x => mulF x ht) ⟨dX, dY, dZ⟩ := ⟨_, rfl⟩
      obtain ⟨f, hf⟩ : ∃ zz, zz = map2 addF ⟨oX, oY, oZ⟩ e := ⟨_, rfl⟩
      obtain ⟨x, hx_⟩ : ∃ zz, zz = map2 subF f ⟨bX, bY, bZ⟩ := ⟨_, rfl⟩
      obtain ⟨n, hn_⟩ : ∃ zz, zz = unitF x := ⟨_, rfl⟩
      have HTU : Hid (res = turnF n ⟨dX, dY, dZ⟩) := Lib.hid (by rw [hres, ← he, ← hf, ← hx_, ← hn_])
      have oe : e.ok := by rw [he]; exact ok_scale _ _
      have of_ : f.ok := by rw [hf]; exact ok_map2add _ _
      have ox : x.ok := by rw [hx_]; exact ok_map2sub _ _
      have on : n.ok := by rw [hn_]; exact ok_unit _
      have HNK := Lib.hid on
      have C1 : Hid (∀ w2, Calls Try.prog 59 #[vecV ⟨dX, dY, dZ⟩, .int .i64 ht] w2 (VTo (vecV e) w2)) := Lib.hid (fun w2 => by have := vrscale_any ⟨dX, dY, dZ⟩ ht HRK.out.2 HTK.out w2; rw [← he] at this; exact this)
      have C2 : Hid (∀ w2, Calls Try.prog 58 #[vecV ⟨oX, oY, oZ⟩, vecV e] w2 (VTo (vecV f) w2)) := Lib.hid (fun w2 => by have := vradd_any ⟨oX, oY, oZ⟩ e HRK.out.1 oe w2; rw [← hf] at this; exact this)
      have C3 : Hid (∀ w2, Calls Try.prog 47 #[vecV f, vecV ⟨bX, bY, bZ⟩] w2 (VTo (vecV x) w2)) := Lib.hid (fun w2 => by have := vrsub_any f ⟨bX, bY, bZ⟩ of_ HBO.out w2; rw [← hx_] at this; exact this)
      have C4 : Hid (∀ w2, Calls Try.prog 57 #[vecV x] w2 (VTo (vecV n) w2)) := Lib.hid (fun w2 => by have := vrunit_any x ox w2; rw [← hn_] at this; exact this)
      clear he hf hx_ hn_ oe of_ ox on hres
      obtain ⟨eX, eY, eZ⟩ := e
      obtain ⟨fX, fY, fZ⟩ := f
      obtain ⟨xX, xY, xZ⟩ := x
      obtain ⟨nX, nY, nZ⟩ := n
      dsimp only [vecV] at *
      rw [hth] at CTH
      go_enter Try.func23, Try.ntmps23
      go_upto_region 1 with (fail)
      rw [← HWW.out]
      clear HWW
      have cHR0 := cell_row HR0.out 0 _ rfl
      have cHR1 := cell_row HR0.out 1 _ rfl
      have cHR2 := cell_row HR0.out 2 _ rfl
      have cHH1 := cell_row HH0.out 1 _ rfl
      go_wp2_with fail
      refine (CTH.out _ HB0.out).mono ?_
      rintro e y13 ⟨rfl, hb⟩
      have HR1 := Lib.hid (vec_step HR0.out hb)
      have HH1 := Lib.hid (vec_step HH0.out hb)
      have HY1 := Lib.hid (vec_step HY0.out hb)
      have HZ1 := Lib.hid (vec_step HZ0.out hb)
      have HB1 := Lib.hid (HB0.out.trans (hb.mono HB0.out.size))
      clear HR0 HH0 HY0 HZ0 HB0 hb cHR0 cHR1 cHR2 cHH1 CTH
      clear hth
      go_upto_region 4 with (fail)
      have HGE := Lib.hid (Base.lt_of_heap HZ1.out)
      have hx := ext_alloc y13 (.cells #[.int .i64 0, .int .i64 0, .int .i64 0] 23)
      have hn := heap_alloc_new y13 (.cells #[.int .i64 0, .int .i64 0, .int .i64 0] 23)
      obtain ⟨y14, hW⟩ : ∃ ww, ww = y13.alloc (.cells #[.int .i64 0, .int .i64 0, .int .i64 0] 23) := ⟨_, rfl⟩
      rw [← hW] at hx hn ⊢
      clear hW
      have HR2 := Lib.hid (vec_step HR1.out hx)
      have HH2 := Lib.hid (vec_step HH1.out hx)
      have HY2 := Lib.hid (vec_step HY1.out hx)
      have HZ2 := Lib.hid (vec_step HZ1.out hx)
      have HB2 := Lib.hid (HB1.out.trans (hx.mono HB1.out.size))
      clear HR1 HH1 HY1 HZ1 HB1 hx  
      have HV2 := Lib.hid (hn)
      clear hn
      generalize y13.heap.size = gHV at HV2 HGE ⊢
      have cHR0 := cell_row HR2.out 0 _ rfl
      have cHR1 := cell_row HR2.out 1 _ rfl
      have cHR2 := cell_row HR2.out 2 _ rfl
      have cHH1 := cell_row HH2.out 1 _ rfl
      go_upto_region 9 with (fail)
      clear cHR0 cHR1 cHR2 cHH1
      have QA := Lib.hid (fun W => qb (P := Try.prog) (W := W) (fun w2 _ => C1.out w2))
      have QB := Lib.hid (fun W => qb (P := Try.prog) (W := W) (fun w2 _ => C2.out w2))
      refine wp_region_free 90 [0, 1, 2, 3, 4, 5, 6, 7] [⟨8, 11, #[.int .i64 0, .int .i64 0, .int .i64 0], 23, 9, 67, #[.int .i64 fX, .int .i64 fY, .int .i64 fZ]⟩] (by kernel_rfl) rfl (by kernel_rfl) (by
        intro x hx
        simp only [List.mem_cons, List.not_mem_nil, or_false] at hx
        subst hx
        exact ⟨⟨_, rfl, ⟨⟨_, rfl, HitT.alloc_vec⟩, rfl, rfl⟩⟩, _, rfl, ⟨⟨_, rfl, vec_size⟩, rfl, rfl, rfl, row_one _ _ _⟩⟩) ?_
      refine Walk.step (A := ?A27) (o := ?o27) ?e27 ?w27 60 ?d27 (by simp) ?h27 ?n27
      case e27 => simp only [List.getElem?_toArray, List.getElem?_cons_succ, List.getElem?_cons_zero]; exact rfl
      case w27 => exact rfl
      case d27 => exact rfl
      case h27 =>
        intro W9 hW9
        go_big_quiet_op
        exact rfl
      refine Walk.step (A := ?A28) (o := ?o28) ?e28 ?w28 61 ?d28 (by simp) ?h28 ?n28
      case e28 => simp only [List.getElem?_toArray, List.getElem?_cons_succ, List.getElem?_cons_zero]; exact rfl
      case w28 => exact rfl
      case d28 => exact rfl
      case h28 =>
        intro W9 hW9
        have z0 := cell_all (vec_step HY2.out hW9) 0 _ rfl
        have z1 := cell_all (vec_step HY2.out hW9) 1 _ rfl
        have z2 := cell_all (vec_step HY2.out hW9) 2 _ rfl
        go_big_quiet_op
        exact rfl
      refine Walk.step (A := ?A29) (o := ?o29) ?e29 ?w29 62 ?d29 (by simp) ?h29 ?n29
      case e29 => simp only [List.getElem?_toArray, List.getElem?_cons_succ, List.getElem?_cons_zero]; exact rfl
      case w29 => exact rfl
      case d29 => exact rfl
      case h29 =>
        intro W9 hW9
        go_big_quiet_op
        exact rfl
      refine Walk.step (A := ?A30) (o := ?o30) ?e30 ?w30 63 ?d30 (by simp) ?h30 ?n30
      case e30 => simp only [List.getElem?_toArray, List.getElem?_cons_succ, List.getElem?_cons_zero]; exact rfl
      case w30 => exact rfl
      case d30 => exact rfl
      case h30 =>
        intro W9 hW9
        have z3 := cell_all (vec_step HY2.out hW9) 3 _ rfl
        have z4 := cell_all (vec_step HY2.out hW9) 4 _ rfl
        have z5 := cell_all (vec_step HY2.out hW9) 5 _ rfl
        go_big_quiet_op
        exact rfl
      refine Walk.step (A := ?A31) (o := ?o31) ?e31 ?w31 64 ?d31 (by simp) ?h31 ?n31
      case e31 => simp only [List.getElem?_toArray, List.getElem?_cons_succ, List.getElem?_cons_zero]; exact rfl
      case w31 => exact rfl
      case d31 => exact rfl
      case h31 =>
        intro W9 hW9
        go_big_quiet_op
        exact rfl
      refine Walk.step (A := ?A32) (o := ?o32) ?e32 ?w32 65 ?d32 (by simp) ?h32 ?n32
      case e32 => simp only [List.getElem?_toArray, List.getElem?_cons_succ, List.getElem?_cons_zero]; exact rfl
      case w32 => exact rfl
      case d32 => exact rfl
      case h32 =>
        intro W9 hW9
        have z0 := cell_all (vec_step HH2.out hW9) 0 _ rfl
        go_big_quiet_op
        exact rfl
      refine Walk.step (A := ?A33) (o := ?o33) ?e33 ?w33 66 ?d33 (by simp) ?h33 ?n33
      case e33 => simp only [List.getElem?_toArray, List.getElem?_cons_succ, List.getElem?_cons_zero]; exact rfl
      case w33 => exact rfl
      case d33 => exact rfl
      case h33 =>
        intro W9 hW9
        go_big_quiet_op
        apply Exists.intro
        refine ⟨fun _ => ?_, ?_⟩
        · with_reducible exact QA.out _ _ _
        exact rfl
      refine Walk.step (A := ?A34) (o := ?o34) ?e34 ?w34 67 ?d34 (by simp) ?h34 ?n34
      case e34 => simp only [List.getElem?_toArray, List.getElem?_cons_succ, List.getElem?_cons_zero]; exact rfl
      case w34 => exact rfl
      case d34 => exact rfl
      case h34 =>
        intro W9 hW9
        go_big_quiet_op
        apply Exists.intro
        refine ⟨fun _ => ?_, ?_⟩
        · with_reducible exact QB.out _ _ _
        exact rfl
      refine ⟨?_, ?_⟩
      · intro x hx
        simp only [List.mem_cons, List.not_mem_nil, or_false] at hx
        subst hx
        rfl
      intro G hG hne y15 hb hk
      have k7 := hk _ (List.mem_cons_self ..)
      dsimp only at k7
      simp only [lay, Act.put, List.setIfInBounds_toArray, List.set_cons_succ, List.set_cons_zero, ptr]
      generalize G 8 = gHAT at k7 ⊢
      clear hG hne hk QA QB C1 C2
      have HR3 := Lib.hid (vec_step HR2.out hb)
      have HH3 := Lib.hid (vec_step HH2.out hb)
      have HY3 := Lib.hid (vec_step HY2.out hb)
      have HZ3 := Lib.hid (vec_step HZ2.out hb)
      have HB3 := Lib.hid (HB2.out.trans (hb.mono HB2.out.size))
      have HV3 := Lib.hid (vec_step HV2.out hb)
      clear HR2 HH2 HY2 HZ2 HB2 HV2 hb  
      have HAT3 := Lib.hid (k7)
      clear k7
      go_upto_region 10 with (fail)
      obtain ⟨b9, o9, e, -, u0, u1, u2, u3⟩ := at4 (HBS0_.out.below HB3.out (Nat.le_refl _)) j hj
      subst e
      rw [HBJ.out hj] at u0 u1 u2 u3
      dsimp only at u0 u1 u2 u3
      have fu0 := fun d os => cell_regrown u0 d os
      have fu1 := fun d os => cell_regrown u1 d os
      have fu2 := fun d os => cell_regrown u2 d os
      have fu3 := fun d os => cell_regrown u3 d os
      clear u0 u1 u2 u3
      have Q3 := Lib.hid (qb (P := Try.prog) (W := y15) (fun w2 hb => C3.out w2))
      have Q4 := Lib.hid (qb (P := Try.prog) (W := y15) (fun w2 hb => C4.out w2))
      have fHAT0 := fun d os => cell_regrown (cell_row HAT3.out 0 _ rfl) d os
      have fHAT1 := fun d os => cell_regrown (cell_row HAT3.out 1 _ rfl) d os
      have fHAT2 := fun d os => cell_regrown (cell_row HAT3.out 2 _ rfl) d os
      have fHR0 := fun d os => cell_regrown (cell_row HR3.out 0 _ rfl) d os
      have fHR1 := fun d os => cell_regrown (cell_row HR3.out 1 _ rfl) d os
      have fHR2 := fun d os => cell_regrown (cell_row HR3.out 2 _ rfl) d os
      have fHH1 := fun d os => cell_regrown (cell_row HH3.out 1 _ rfl) d os
      refine wp_region_below_tail 14 (by kernel_rfl) (by kernel_rfl) ?_
      simp only [List.take_succ_cons, List.take_zero, List.drop_succ_cons, List.drop_zero]
      repeat (go_big_quiet_step (first | (with_reducible exact Q3.out _ _) | (with_reducible exact Q4.out _ _)))
      refine wpQuiet_nil ?_
      first | (rintro _ ⟨⟨dq, osq⟩, rfl⟩) | (rintro ⟨dq, osq⟩)
      have hb := below_regrown y15 dq osq
      obtain ⟨y16, hW⟩ : ∃ ww, ww = grow (redrawn y15 dq) osq := ⟨_, rfl⟩
      rw [← hW] at hb ⊢
      clear hW
      have HR4 := Lib.hid (vec_step HR3.out hb)
      have HH4 := Lib.hid (vec_step HH3.out hb)
      have HY4 := Lib.hid (vec_step HY3.out hb)
      have HZ4 := Lib.hid (vec_step HZ3.out hb)
      have HB4 := Lib.hid (HB3.out.trans (hb.mono HB3.out.size))
      have HV4 := Lib.hid (vec_step HV3.out hb)
      have HAT4 := Lib.hid (vec_step HAT3.out hb)
      clear HR3 HH3 HY3 HZ3 HB3 HV3 HAT3 hb  fHAT0 fHAT1 fHAT2 fHR0 fHR1 fHR2 fHH1 Q3 Q4 C3 C4 fu0 fu1 fu2 fu3
      refine store_vec rfl (.tmp 7) (.tmp 81) rfl rfl gHV nX nY nZ rfl rfl _ _ _ HV4.out ?_
      have HZ80 := Lib.hid ((setRow_other y16 gHV (w.heap.size + 1 + 1 + 1) #[.int .i64 nX, .int .i64 nY, .int .i64 nZ] (by have := HGE.out; omega)).trans HZ4.out)
      have HY80 := Lib.hid ((setRow_other y16 gHV (w.heap.size + 1 + 1) #[.int .i64 nX, .int .i64 nY, .int .i64 nZ] (by have := HGE.out; omega)).trans HY4.out)
      have HV80 := Lib.hid (setRow_heap y16 gHV _ #[.int .i64 nX, .int .i64 nY, .int .i64 nZ] _ _ HV4.out)
      have HB80 := Lib.hid (below_setRow HB4.out (show w.heap.size ≤ gHV by have := HGE.out; omega) #[.int .i64 nX, .int .i64 nY, .int .i64 nZ])
      obtain ⟨y17, hW8⟩ : ∃ ww, ww = y16.setRow gHV #[.int .i64 nX, .int .i64 nY, .int .i64 nZ] := ⟨_, rfl⟩
      rw [← hW8] at HZ80 HY80 HV80 HB80 ⊢
      clear hW8  HR4 HH4 HY4 HZ4 HB4 HV4 HAT4
      obtain ⟨dt, hdt⟩ : ∃ zz, zz = dotF ⟨nX, nY, nZ⟩ ⟨dX, dY, dZ⟩ := ⟨_, rfl⟩
      have CDT : Hid (∀ w2, Calls Try.prog 49 #[.agg #[.int .i64 nX, .int .i64 nY, .int .i64 nZ], .agg #[.int .i64 dX, .int .i64 dY, .int .i64 dZ]] w2 (VTo (.int .i64 dt) w2)) := Lib.hid (fun w2 => by have := vrdot_any ⟨nX, nY, nZ⟩ ⟨dX, dY, dZ⟩ HNK.out HRK.out.2 w2; rw [← hdt] at this; exact this)
      have HT2 : Hid (res = if 0 < dt then map1 negF ⟨nX, nY, nZ⟩ else ⟨nX, nY, nZ⟩) := Lib.hid (by rw [HTU.out]; unfold turnF; rw [← hdt])
      clear hdt HTU
      have cHV0 := cell_row HV80.out 0 _ rfl
      have cHV1 := cell_row HV80.out 1 _ rfl
      have cHV2 := cell_row HV80.out 2 _ rfl
      have cHY3 := cell_row HY80.out 3 _ rfl
      have cHY4 := cell_row HY80.out 4 _ rfl
      have cHY5 := cell_row HY80.out 5 _ rfl
      go_wp2_with fail
      refine (CDT.out _).mono ?_
      rintro e y18 ⟨rfl, hb⟩
      have HZ81 := Lib.hid (vec_step HZ80.out hb)
      have HY81 := Lib.hid (vec_step HY80.out hb)
      have HV81 := Lib.hid (vec_step HV80.out hb)
      have HB81 := Lib.hid (HB80.out.trans (hb.mono HB80.out.size))
      clear HZ80 HY80 HV80 HB80 hb cHV0 cHV1 cHV2 cHY3 cHY4 cHY5 CDT
      by_cases h5 : 0 < dt
      · have d5 : decide (0 < dt) = true := decide_eq_true h5
        have hr0 : res = map1 negF ⟨nX, nY, nZ⟩ := by rw [HT2.out, if_pos h5]
        obtain ⟨⟨mX, mY, mZ⟩, hmm⟩ : ∃ zz, zz = map1 negF ⟨nX, nY, nZ⟩ := ⟨_, rfl⟩
        have CNG : Hid (∀ w2, Calls Try.prog 60 #[.agg #[.int .i64 nX, .int .i64 nY, .int .i64 nZ]] w2 (VTo (.agg #[.int .i64 mX, .int .i64 mY, .int .i64 mZ]) w2)) := Lib.hid (fun w2 => by have := vrneg_any ⟨nX, nY, nZ⟩ HNK.out w2; rw [← hmm] at this; exact this)
        rw [← hmm] at hr0
        subst hr0
        clear hmm HT2
        have cHV0 := cell_row HV81.out 0 _ rfl
        have cHV1 := cell_row HV81.out 1 _ rfl
        have cHV2 := cell_row HV81.out 2 _ rfl
        go_wp2_with fail
        refine (CNG.out _).mono ?_
        rintro e y19 ⟨rfl, hb⟩
        have HZ82 := Lib.hid (vec_step HZ81.out hb)
        have HY82 := Lib.hid (vec_step HY81.out hb)
        have HV82 := Lib.hid (vec_step HV81.out hb)
        have HB82 := Lib.hid (HB81.out.trans (hb.mono HB81.out.size))
        clear HZ81 HY81 HV81 HB81 hb cHV0 cHV1 cHV2 CNG
        go_wp2_with (with_reducible refine store_vec rfl (.tmp 6) (.tmp 88) rfl rfl (w.heap.size + 1 + 1 + 1) mX mY mZ rfl rfl _ _ _ HZ82.out ?_)
        refine bodyPost_ret (results_cell_row rfl _ _ (w.heap.size + 1 + 1 + 1) 23 _ _ _ rfl (setRow_heap _ _ _ _ _ _ HZ82.out) Try.underlying23 rfl vec_size) rfl ?_
        exact ⟨rfl, below_setRow HB82.out (by omega) _⟩
      · have d5 : decide (0 < dt) = false := decide_eq_false h5
        have hr0 : res = ⟨nX, nY, nZ⟩ := by rw [HT2.out, if_neg h5]
        subst hr0
        clear HT2
        have cHV0 := cell_row HV81.out 0 _ rfl
        have cHV1 := cell_row HV81.out 1 _ rfl
        have cHV2 := cell_row HV81.out 2 _ rfl
        go_wp2_with (with_reducible refine store_vec rfl (.tmp 6) (.tmp 89) rfl rfl (w.heap.size + 1 + 1 + 1) nX nY nZ rfl rfl _ _ _ HZ81.out ?_)
        refine bodyPost_ret (results_cell_row rfl _ _ (w.heap.size + 1 + 1 + 1) 23 _ _ _ rfl (setRow_heap _ _ _ _ _ _ HZ81.out) Try.underlying23 rfl vec_size) rfl ?_
        exact ⟨rfl, below_setRow HB81.out (by omega) _⟩

end Go.Proofs.Ytdmmbhcaejojeaa.HitR4
