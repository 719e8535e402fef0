/- The walks of hit.Scan and hit.Normal. -/
import Derived.Test.YtdmmbhcaejojeaaHitS
set_option linter.unusedVariables false
set_option linter.unusedSimpArgs false
namespace Go.Proofs.Ytdmmbhcaejojeaa.HitV
open Go.RowKit Go.Sort FixM Base Num FixW Qb Qt Qa Qf Qg VecW VecV VecU LightQ LightC MeshM Rec MeshA MeshB MeshC MeshD MeshE MeshP HitM HitT HitB HitX HitN HitC HitS
theorem none_lit (w : World) : Calls Try.prog 38 #[] w (VTo (.agg #[.int .i64 0, .int .i64 (-1), .int .i64 0, .int .i64 0]) w) := none_any w
abbrev hrow (h : Ht) : Array Value := #[.int .i64 h.t, .int .i64 h.i, .int .i64 h.u, .int .i64 h.v]
def scanTo (m : Msh) (r : Ry) (least : Int) (k : Nat) : Ht := (List.range k).foldl (scanStep m r least) htN
theorem scanTo_next (m : Msh) (r : Ry) (least : Int) (k : Nat) : scanTo m r least (k + 1) = scanStep m r least (scanTo m r least k) k := by
  unfold scanTo; rw [List.range_succ, List.foldl_append]; rfl
/-- the loop's state: the best so far in block g -/
structure Sc (w W wr : World) (g : Nat) (h : Ht) : Prop where
  row : wr.heap[g]? = some (.cells (hrow h) 33)
  hb : Below w.heap.size w wr
  k : Keeps (fun j => j = g) W wr
theorem Sc.step {w W wr w' : World} {g : Nat} {h : Ht} (s : Sc w W wr g h) (hb : Below wr.heap.size wr w') : Sc w W w' g h :=
  ⟨vec_step s.row hb, s.hb.trans (hb.mono s.hb.size), s.k.trans (Keeps.of_ext hb _) (fun k hk => .inl hk)⟩
theorem Sc.put {w W wr : World} {g : Nat} {h h' : Ht} (s : Sc w W wr g h) (hg : w.heap.size ≤ g) : Sc w W (wr.setRow g (hrow h')) g h' :=
  ⟨setRow_heap _ _ _ _ _ _ s.row, below_setRow s.hb hg _, s.k.setRow g _ (.inl rfl)⟩

set_option maxRecDepth 100000 in
set_option maxHeartbeats 16000000 in
theorem scan_any (v : Value) (m : Msh) (w : World) (hm : IsMesh w v m) (ok : m.ok) (hl : m.ts.length + m.bs.length ≤ 9223372036854775807) (r : Ry) (hr : r.ok) (least : Int) : Calls Try.prog 14 #[v, rayV r, .int .i64 least] w (VTo (hitV (scanF m r least)) w) := by
  have CCN := Lib.hid (fun w2 (hb : Below w.heap.size w w2) => count_any v m w2 (hm.below hb) hl)
  have CSH := Lib.hid (fun w2 (hb : Below w.heap.size w w2) (k : Nat) (hk : k < m.ts.length + m.bs.length) => shape_any v m w2 (hm.below hb) ok hl (k : Int) ⟨by omega, by omega⟩ r hr least)
  have HNX := Lib.hid (scanTo_next m r least)
  have HST : Hid (∀ best k, scanStep m r least best k = match shapeF m (k : Int) r least with | none => best | some h => if best.i < 0 ∨ h.t < best.t then h else best) := Lib.hid (fun _ _ => rfl)
  have HRS := Lib.hid (show scanF m r least = scanTo m r least (m.ts.length + m.bs.length) from rfl)
  have H00 := Lib.hid (show scanTo m r least 0 = htN from rfl)
  generalize scanF m r least = res at HRS ⊢
  generalize scanTo m r least = sc at HNX HRS H00
  obtain ⟨N, hN⟩ : ∃ zz, zz = m.ts.length + m.bs.length := ⟨_, rfl⟩
  rw [← hN] at CCN CSH HRS hl
  clear hN
  obtain ⟨a0, c0, a1, c1, a2, c2, rfl, -⟩ := hm.open_
  have HKX : Hid (∀ k : Nat, ∃ x, x = shapeF m (k : Int) r least) := Lib.hid (fun _ => ⟨_, rfl⟩)
  obtain ⟨shp, hshp⟩ : ∃ zz : Nat → Option Ht, zz = fun k : Nat => shapeF m (k : Int) r least := ⟨_, rfl⟩
  have HST2 : Hid (∀ best k, scanStep m r least best k = match shp k with | none => best | some h => if best.i < 0 ∨ h.t < best.t then h else best) := Lib.hid (by rw [hshp]; exact HST.out)
  have CS2 : Hid (∀ w2, Below w.heap.size w w2 → ∀ k : Nat, k < N → Calls Try.prog 15 #[.agg #[.slice a0 m.ps.length c0, .slice a1 m.ts.length c1, .slice a2 m.bs.length c2], .int .i64 (k : Int), rayV r, .int .i64 least] w2 (VTo (shapeR (shp k)) w2)) := Lib.hid (by rw [hshp]; exact CSH.out)
  have HNX2 : Hid (∀ k, sc (k + 1) = match shp k with | none => sc k | some h => if (sc k).i < 0 ∨ h.t < (sc k).t then h else sc k) := Lib.hid (fun k => by rw [HNX.out, HST2.out])
  clear hshp HST HST2 CSH HNX HKX
  obtain ⟨⟨oX, oY, oZ⟩, ⟨dX, dY, dZ⟩⟩ := r
  dsimp only [rayV] at *
  obtain ⟨hA, hB_, hC, hB0⟩ := al3h w (.cells #[.slice a0 m.ps.length c0, .slice a1 m.ts.length c1, .slice a2 m.bs.length c2] 44) (.cells #[.int .i64 oX, .int .i64 oY, .int .i64 oZ, .int .i64 dX, .int .i64 dY, .int .i64 dZ] 25) (.cells #[.int .i64 0, .int .i64 0, .int .i64 0, .int .i64 0] 33)
  obtain ⟨W, hW⟩ : ∃ ww, ww = ((w.alloc (.cells #[.slice a0 m.ps.length c0, .slice a1 m.ts.length c1, .slice a2 m.bs.length c2] 44)).alloc (.cells #[.int .i64 oX, .int .i64 oY, .int .i64 oZ, .int .i64 dX, .int .i64 dY, .int .i64 dZ] 25)).alloc (.cells #[.int .i64 0, .int .i64 0, .int .i64 0, .int .i64 0] 33) := ⟨_, rfl⟩
  rw [← hW] at hA hB_ hC hB0
  have HR0 := Lib.hid hA
  have HY0 := Lib.hid hB_
  have HZ0 := Lib.hid hC
  have HB0 := Lib.hid hB0
  have HWW := Lib.hid hW
  clear hA hB_ hC hB0 hW hm ok hr
  go_enter Try.func14, Try.ntmps14
  go_upto_region 1 with (fail)
  rw [← HWW.out]
  clear HWW
  go_wp2_with fail
  refine (none_lit _).mono ?_
  rintro e y1 ⟨rfl, hb⟩
  have HR1 := Lib.hid (vec_step HR0.out hb)
  have HY1 := Lib.hid (vec_step HY0.out hb)
  have HZ1 := Lib.hid (vec_step HZ0.out hb)
  have HB1 := Lib.hid (HB0.out.trans (hb.mono HB0.out.size))
  clear HR0 HY0 HZ0 HB0 hb  
  go_upto_region 2 with (fail)
  have HGE := Lib.hid (Base.lt_of_heap HZ1.out)
  have hx := ext_alloc y1 (.cells #[.int .i64 0, .int .i64 (-1), .int .i64 0, .int .i64 0] 33)
  have hn := heap_alloc_new y1 (.cells #[.int .i64 0, .int .i64 (-1), .int .i64 0, .int .i64 0] 33)
  obtain ⟨y2, hW⟩ : ∃ ww, ww = y1.alloc (.cells #[.int .i64 0, .int .i64 (-1), .int .i64 0, .int .i64 0] 33) := ⟨_, rfl⟩
  rw [← hW] at hx hn ⊢
  clear hW
  have HR2 := Lib.hid (vec_step HR1.out hx)
  have HY2 := Lib.hid (vec_step HY1.out hx)
  have HZ2 := Lib.hid (vec_step HZ1.out hx)
  have HB2 := Lib.hid (HB1.out.trans (hx.mono HB1.out.size))
  clear HR1 HY1 HZ1 HB1 hx  
  have HBE2 := Lib.hid (hn)
  clear hn
  generalize y1.heap.size = gHBE at HBE2 HGE ⊢
  have cHR0 := cell_row HR2.out 0 _ rfl
  have cHR1 := cell_row HR2.out 1 _ rfl
  have cHR2 := cell_row HR2.out 2 _ rfl
  go_wp2_with fail
  refine (CCN.out _ HB2.out).mono ?_
  rintro e y3 ⟨rfl, hb⟩
  have HR3 := Lib.hid (vec_step HR2.out hb)
  have HY3 := Lib.hid (vec_step HY2.out hb)
  have HZ3 := Lib.hid (vec_step HZ2.out hb)
  have HB3 := Lib.hid (HB2.out.trans (hb.mono HB2.out.size))
  have HBE3 := Lib.hid (vec_step HBE2.out hb)
  clear HR2 HY2 HZ2 HB2 HBE2 hb cHR0 cHR1 cHR2 
  have HS0 := Lib.hid (show Sc w y3 y3 gHBE (sc 0) from ⟨by rw [H00.out]; exact HBE3.out, HB3.out, Keeps.refl _ _⟩)
  clear HBE3 H00
  go_wp2_with fail
  go_loopg [14] N (fun r n9 wr => ∃ k : Nat, k + r = N ∧ n9 = .int .i64 (k : Int) ∧ Hid (Sc w y3 wr gHBE (sc k)))
  case atStart => exact ⟨0, by omega, rfl, HS0⟩
  case round =>
    obtain ⟨k, hkr, rfl, hin⟩ := hrel
    have HR9 := Lib.hid (keep_cell hin.out.k HR3.out (fun e => by have := HGE.out; omega))
    have HY9 := Lib.hid (keep_cell hin.out.k HY3.out (fun e => by have := HGE.out; omega))
    have HZ9 := Lib.hid (keep_cell hin.out.k HZ3.out (fun e => by have := HGE.out; omega))
    have HKR := Lib.hid hkr
    by_cases hk : k < N
    · have d2 : decide ((k : Int) < (N : Int)) = true := decide_eq_true (by omega)
      have d3 : decide (k < N) = true := decide_eq_true hk
      have wi : IntKind.i64.wrap ((k : Int) + 1) = (k : Int) + 1 := by rw [wrap_in (by omega) (by omega)]
      have HNK := Lib.hid (HNX2.out k)
      have CK := Lib.hid (fun w2 hb => CS2.out w2 hb k hk)
      have HK := Lib.hid hk
      obtain ⟨bst, hbst⟩ : ∃ zz, zz = sc k := ⟨_, rfl⟩
      have hin1 := hin.out
      rw [← hbst] at HNK hin1
      have HIN := Lib.hid hin1
      obtain ⟨bt, bi, bu, bv⟩ := bst
      dsimp only at HNK
      clear hin hin1 hbst hkr hk
      cases hsh : shp k
      · rw [hsh] at CK HNK
        dsimp only at HNK
        unfold shapeR at CK
        dsimp only [hitV, htN, Option.getD_some, Option.getD_none, Option.isSome_some, Option.isSome_none] at CK
        have c0 := cell_row HR9.out 0 _ rfl
        have c1 := cell_row HR9.out 1 _ rfl
        have c2 := cell_row HR9.out 2 _ rfl
        have e0 := cell_row HY9.out 0 _ rfl
        have e1 := cell_row HY9.out 1 _ rfl
        have e2 := cell_row HY9.out 2 _ rfl
        have e3 := cell_row HY9.out 3 _ rfl
        have e4 := cell_row HY9.out 4 _ rfl
        have e5 := cell_row HY9.out 5 _ rfl
        go_wp2_with fail
        refine (CK.out _ HIN.out.hb).mono ?_
        rintro e x1 ⟨rfl, hb⟩
        have HI1 := Lib.hid (HIN.out.step hb)
        clear hb HIN CK c0 c1 c2 e0 e1 e2 e3 e4 e5
        have HI2 := Lib.hid (HI1.out.step (ext_alloc x1 (.cells #[.int .i64 0, .int .i64 (-1), .int .i64 0, .int .i64 0] 33)))
        go_wp2_with fail
        go_roundg (N - (k + 1))
        case measure => have := HKR.out; have := HK.out; omega
        case rel => exact ⟨k + 1, by have := HKR.out; have := HK.out; omega, by go_num, Lib.hid (by rw [HNK.out]; exact HI2.out)⟩
      · rename_i hh
        obtain ⟨ht, hi_, hu, hv⟩ := hh
        rw [hsh] at CK HNK
        dsimp only at HNK
        unfold shapeR at CK
        dsimp only [hitV, htN, Option.getD_some, Option.getD_none, Option.isSome_some, Option.isSome_none] at CK
        have c0 := cell_row HR9.out 0 _ rfl
        have c1 := cell_row HR9.out 1 _ rfl
        have c2 := cell_row HR9.out 2 _ rfl
        have e0 := cell_row HY9.out 0 _ rfl
        have e1 := cell_row HY9.out 1 _ rfl
        have e2 := cell_row HY9.out 2 _ rfl
        have e3 := cell_row HY9.out 3 _ rfl
        have e4 := cell_row HY9.out 4 _ rfl
        have e5 := cell_row HY9.out 5 _ rfl
        go_wp2_with fail
        refine (CK.out _ HIN.out.hb).mono ?_
        rintro e x1 ⟨rfl, hb⟩
        have HI1 := Lib.hid (HIN.out.step hb)
        clear hb HIN CK c0 c1 c2 e0 e1 e2 e3 e4 e5
        go_upto_region 6 with (fail)
        have HI2 := Lib.hid (HI1.out.step (ext_alloc x1 (.cells #[.int .i64 ht, .int .i64 hi_, .int .i64 hu, .int .i64 hv] 33)))
        have hn := heap_alloc_new x1 (.cells #[.int .i64 ht, .int .i64 hi_, .int .i64 hu, .int .i64 hv] 33)
        obtain ⟨x2, hx2⟩ : ∃ ww, ww = x1.alloc (.cells #[.int .i64 ht, .int .i64 hi_, .int .i64 hu, .int .i64 hv] 33) := ⟨_, rfl⟩
        rw [← hx2] at HI2 hn ⊢
        have HH := Lib.hid hn
        clear hx2 hn HI1
        generalize x1.heap.size = gH at HH ⊢
        by_cases h1 : bi < 0
        · have d4 : decide (bi < 0) = true := decide_eq_true h1
          have c0 := cell_row HH.out 0 _ rfl
          have c1 := cell_row HH.out 1 _ rfl
          have c2 := cell_row HH.out 2 _ rfl
          have c3 := cell_row HH.out 3 _ rfl
          have e0 := cell_row HI2.out.row 0 (.int .i64 bt) rfl
          have e1 := cell_row HI2.out.row 1 (.int .i64 bi) rfl
          go_wp2_with (with_reducible refine store_hit rfl (.tmp 7) (.tmp 38) rfl rfl gHBE ht hi_ hu hv rfl rfl _ HI2.out.row rfl ?_)
          go_roundg (N - (k + 1))
          case measure => have := HKR.out; have := HK.out; omega
          case rel => exact ⟨k + 1, by have := HKR.out; have := HK.out; omega, by go_num, Lib.hid (by rw [HNK.out, if_pos (.inl h1)]; exact HI2.out.put (h' := ⟨ht, hi_, hu, hv⟩) (by have := HGE.out; omega))⟩
        · have d4 : decide (bi < 0) = false := decide_eq_false h1
          by_cases h2 : ht < bt
          · have d5 : decide (ht < bt) = true := decide_eq_true h2
            have c0 := cell_row HH.out 0 _ rfl
            have c1 := cell_row HH.out 1 _ rfl
            have c2 := cell_row HH.out 2 _ rfl
            have c3 := cell_row HH.out 3 _ rfl
            have e0 := cell_row HI2.out.row 0 (.int .i64 bt) rfl
            have e1 := cell_row HI2.out.row 1 (.int .i64 bi) rfl
            go_wp2_with (with_reducible refine store_hit rfl (.tmp 7) (.tmp 38) rfl rfl gHBE ht hi_ hu hv rfl rfl _ HI2.out.row rfl ?_)
            go_roundg (N - (k + 1))
            case measure => have := HKR.out; have := HK.out; omega
            case rel => exact ⟨k + 1, by have := HKR.out; have := HK.out; omega, by go_num, Lib.hid (by rw [HNK.out, if_pos (.inr h2)]; exact HI2.out.put (h' := ⟨ht, hi_, hu, hv⟩) (by have := HGE.out; omega))⟩
          · have d5 : decide (ht < bt) = false := decide_eq_false h2
            have HNO : Hid (¬ (bi < 0 ∨ ht < bt)) := Lib.hid (by omega)
            have c0 := cell_row HH.out 0 _ rfl
            have c1 := cell_row HH.out 1 _ rfl
            have c2 := cell_row HH.out 2 _ rfl
            have c3 := cell_row HH.out 3 _ rfl
            have e0 := cell_row HI2.out.row 0 (.int .i64 bt) rfl
            have e1 := cell_row HI2.out.row 1 (.int .i64 bi) rfl
            go_wp2_with fail
            go_roundg (N - (k + 1))
            case measure => have := HKR.out; have := HK.out; omega
            case rel => exact ⟨k + 1, by have := HKR.out; have := HK.out; omega, by go_num, Lib.hid (by rw [HNK.out, if_neg HNO.out]; exact HI2.out)⟩
    · have d2 : decide ((k : Int) < (N : Int)) = false := decide_eq_false (by omega)
      have d3 : decide (k < N) = false := decide_eq_false hk
      obtain rfl : k = N := by omega
      have hin1 := hin.out
      rw [← HRS.out] at hin1
      have HIN := Lib.hid hin1
      clear hin hin1 hk hkr HRS
      obtain ⟨ht, hi_, hu, hv⟩ := res
      have c0 := cell_row HIN.out.row 0 _ rfl
      have c1 := cell_row HIN.out.row 1 _ rfl
      have c2 := cell_row HIN.out.row 2 _ rfl
      have c3 := cell_row HIN.out.row 3 _ rfl
      go_wp2_with (with_reducible refine store_hit rfl (.tmp 6) (.tmp 40) rfl rfl (w.heap.size + 1 + 1) ht hi_ hu hv rfl rfl _ HZ9.out rfl ?_)
      refine bodyPost_ret (results_cell_row rfl _ _ (w.heap.size + 1 + 1) 33 _ _ _ rfl (setRow_heap _ _ _ _ _ _ HZ9.out) Try.underlying33 rfl hit_size) rfl ?_
      exact ⟨rfl, below_setRow HIN.out.hb (by omega) _⟩

set_option maxRecDepth 100000 in
set_option maxHeartbeats 16000000 in
theorem normal_any (v : Value) (m : Msh) (w : World) (hm : IsMesh w v m) (ok : m.ok) (hl : m.ts.length + m.bs.length ≤ 9223372036854775807) (h : Ht) (hi : In h.i) (ht_ : In h.t) (r : Ry) (hr : r.ok) : Calls Try.prog 16 #[v, hitV h, rayV r] w (VTo (vecV (normalF m h r)) w) := by
  obtain ⟨ht, hi_, hu, hv⟩ := h
  dsimp only at hi ht_
  have CCN := Lib.hid (fun w2 (hb : Below w.heap.size w w2) => count_any v m w2 (hm.below hb) hl)
  have CCO := Lib.hid (fun w2 (hb : Below w.heap.size w w2) => corners_any v m w2 (hm.below hb) hi_)
  obtain ⟨a0, c0, a1, c1, a2, c2, rfl, h0, h1, h2, l0, l1, l2⟩ := hm.open_
  have HOK := Lib.hid ok
  have HRK := Lib.hid hr
  have HTK := Lib.hid ht_
  have HBS0_ := Lib.hid h2
  obtain ⟨⟨oX, oY, oZ⟩, ⟨dX, dY, dZ⟩⟩ := r
  dsimp only [rayV, hitV] at *
  obtain ⟨hA, hB_, hC, hD, hB0⟩ := al4 w (.cells #[.slice a0 m.ps.length c0, .slice a1 m.ts.length c1, .slice a2 m.bs.length c2] 44) (.cells #[.int .i64 ht, .int .i64 hi_, .int .i64 hu, .int .i64 hv] 33) (.cells #[.int .i64 oX, .int .i64 oY, .int .i64 oZ, .int .i64 dX, .int .i64 dY, .int .i64 dZ] 25) (.cells #[.int .i64 0, .int .i64 0, .int .i64 0] 23)
  obtain ⟨W, hW⟩ : ∃ ww, ww = (((w.alloc (.cells #[.slice a0 m.ps.length c0, .slice a1 m.ts.length c1, .slice a2 m.bs.length c2] 44)).alloc (.cells #[.int .i64 ht, .int .i64 hi_, .int .i64 hu, .int .i64 hv] 33)).alloc (.cells #[.int .i64 oX, .int .i64 oY, .int .i64 oZ, .int .i64 dX, .int .i64 dY, .int .i64 dZ] 25)).alloc (.cells #[.int .i64 0, .int .i64 0, .int .i64 0] 23) := ⟨_, rfl⟩
  rw [← hW] at hA hB_ hC hD hB0
  have HR0 := Lib.hid hA
  have HH0 := Lib.hid hB_
  have HY0 := Lib.hid hC
  have HZ0 := Lib.hid hD
  have HB0 := Lib.hid hB0
  have HWW := Lib.hid hW
  clear hA hB_ hC hD hB0 hW hm h0 h1 h2 l0 l1 l2 ok hr ht_
  obtain ⟨N, hN⟩ : ∃ zz : Int, zz = ((m.ts.length + m.bs.length : Nat) : Int) := ⟨_, rfl⟩
  rw [← hN] at CCN
  have HN : N = (m.ts.length : Int) + (m.bs.length : Int) := by rw [hN]; omega
  clear hN
  obtain ⟨res, hres⟩ : ∃ zz, zz = normalF m ⟨ht, hi_, hu, hv⟩ ⟨⟨oX, oY, oZ⟩, ⟨dX, dY, dZ⟩⟩ := ⟨_, rfl⟩
  rw [← hres]
  unfold normalF at hres
  dsimp only at hres
  by_cases h0 : hi_ < 0
  · have d0 : decide (hi_ < 0) = true := decide_eq_true h0
    have hr0 : res = v0 := by rw [hres, if_pos (.inl h0)]
    subst hr0
    unfold v0
    clear hres h0
    go_enter Try.func16, Try.ntmps16
    go_upto_region 1 with (fail)
    rw [← HWW.out]
    clear HWW
    have cHH1 := cell_row HH0.out 1 _ rfl
    go_wp2_with (with_reducible refine store_vec rfl (.tmp 6) (.tmp 24) rfl rfl (w.heap.size + 1 + 1 + 1) 0 0 0 rfl rfl _ _ _ HZ0.out ?_)
    refine bodyPost_ret (results_cell_row rfl _ _ (w.heap.size + 1 + 1 + 1) 23 _ _ _ rfl (setRow_heap _ _ _ _ _ _ HZ0.out) Try.underlying23 rfl vec_size) rfl ?_
    exact ⟨rfl, below_setRow HB0.out (by omega) _⟩
  have d0 : decide (hi_ < 0) = false := decide_eq_false h0
  by_cases h1 : N ≤ hi_
  · have d1 : decide (N ≤ hi_) = true := decide_eq_true h1
    have hr0 : res = v0 := by rw [hres, if_pos (.inr (by omega))]
    subst hr0
    unfold v0
    clear hres h1 h0 HN
    go_enter Try.func16, Try.ntmps16
    go_upto_region 1 with (fail)
    rw [← HWW.out]
    clear HWW
    have cHH1 := cell_row HH0.out 1 _ rfl
    have cHR0 := cell_row HR0.out 0 _ rfl
    have cHR1 := cell_row HR0.out 1 _ rfl
    have cHR2 := cell_row HR0.out 2 _ rfl
    go_wp2_with fail
    refine (CCN.out _ HB0.out).mono ?_
    rintro e y4 ⟨rfl, hb⟩
    have HR1 := Lib.hid (vec_step HR0.out hb)
    have HH1 := Lib.hid (vec_step HH0.out hb)
    have HY1 := Lib.hid (vec_step HY0.out hb)
    have HZ1 := Lib.hid (vec_step HZ0.out hb)
    have HB1 := Lib.hid (HB0.out.trans (hb.mono HB0.out.size))
    clear HR0 HH0 HY0 HZ0 HB0 hb cHH1 cHR0 cHR1 cHR2 
    go_wp2_with (with_reducible refine store_vec rfl (.tmp 6) (.tmp 24) rfl rfl (w.heap.size + 1 + 1 + 1) 0 0 0 rfl rfl _ _ _ HZ1.out ?_)
    refine bodyPost_ret (results_cell_row rfl _ _ (w.heap.size + 1 + 1 + 1) 23 _ _ _ rfl (setRow_heap _ _ _ _ _ _ HZ1.out) Try.underlying23 rfl vec_size) rfl ?_
    exact ⟨rfl, below_setRow HB1.out (by omega) _⟩
  have d1 : decide (N ≤ hi_) = false := decide_eq_false h1
  rw [if_neg (by omega)] at hres
  by_cases h2 : hi_ < (m.ts.length : Int)
  · have d2 : decide (hi_ < (m.ts.length : Int)) = true := decide_eq_true h2
    rw [if_pos h2] at hres
    clear h0 h1 h2 HN
    cases hco : cornersF m hi_
    · rw [hco] at CCO hres
      unfold cornersR at CCO
      dsimp only [vecV, Option.getD_some, Option.getD_none, Option.isSome_some, Option.isSome_none, v0] at CCO
      dsimp only at hres
      have hr0 : res = v0 := hres
      subst hr0
      unfold v0
      clear hco
      go_enter Try.func16, Try.ntmps16
      go_upto_region 1 with (fail)
      rw [← HWW.out]
      clear HWW
      have cHH1 := cell_row HH0.out 1 _ rfl
      have cHR0 := cell_row HR0.out 0 _ rfl
      have cHR1 := cell_row HR0.out 1 _ rfl
      have cHR2 := cell_row HR0.out 2 _ rfl
      go_wp2_with fail
      refine (CCN.out _ HB0.out).mono ?_
      rintro e y5 ⟨rfl, hb⟩
      have HR1 := Lib.hid (vec_step HR0.out hb)
      have HH1 := Lib.hid (vec_step HH0.out hb)
      have HY1 := Lib.hid (vec_step HY0.out hb)
      have HZ1 := Lib.hid (vec_step HZ0.out hb)
      have HB1 := Lib.hid (HB0.out.trans (hb.mono HB0.out.size))
      clear HR0 HH0 HY0 HZ0 HB0 hb cHH1 cHR0 cHR1 cHR2 
      go_upto_region 5 with (fail)
      have HGE := Lib.hid (Base.lt_of_heap HZ1.out)
      have hx := ext_alloc y5 (.cells #[.int .i64 0, .int .i64 0, .int .i64 0] 23)
      have hn := heap_alloc_new y5 (.cells #[.int .i64 0, .int .i64 0, .int .i64 0] 23)
      obtain ⟨y6, hW⟩ : ∃ ww, ww = y5.alloc (.cells #[.int .i64 0, .int .i64 0, .int .i64 0] 23) := ⟨_, rfl⟩
      rw [← hW] at hx hn ⊢
      clear hW
      have HR2 := Lib.hid (vec_step HR1.out hx)
      have HH2 := Lib.hid (vec_step HH1.out hx)
      have HY2 := Lib.hid (vec_step HY1.out hx)
      have HZ2 := Lib.hid (vec_step HZ1.out hx)
      have HB2 := Lib.hid (HB1.out.trans (hx.mono HB1.out.size))
      clear HR1 HH1 HY1 HZ1 HB1 hx  
      have HV2 := Lib.hid (hn)
      clear hn
      generalize y5.heap.size = gHV at HV2 HGE ⊢
      have cHR0 := cell_row HR2.out 0 _ rfl
      have cHR1 := cell_row HR2.out 1 _ rfl
      have cHR2 := cell_row HR2.out 2 _ rfl
      go_wp2_with fail
      refine (CCO.out _ HB2.out).mono ?_
      rintro e y7 ⟨rfl, hb⟩
      have HR3 := Lib.hid (vec_step HR2.out hb)
      have HH3 := Lib.hid (vec_step HH2.out hb)
      have HY3 := Lib.hid (vec_step HY2.out hb)
      have HZ3 := Lib.hid (vec_step HZ2.out hb)
      have HB3 := Lib.hid (HB2.out.trans (hb.mono HB2.out.size))
      have HV3 := Lib.hid (vec_step HV2.out hb)
      clear HR2 HH2 HY2 HZ2 HB2 HV2 hb cHR0 cHR1 cHR2 
      go_upto_region 7 with (fail)
      obtain ⟨ka, kb, kc, hx⟩ := al3h y7 (.cells #[.int .i64 0, .int .i64 0, .int .i64 0] 23) (.cells #[.int .i64 0, .int .i64 0, .int .i64 0] 23) (.cells #[.int .i64 0, .int .i64 0, .int .i64 0] 23)
      obtain ⟨y8, hW⟩ : ∃ ww, ww = ((y7.alloc (.cells #[.int .i64 0, .int .i64 0, .int .i64 0] 23)).alloc (.cells #[.int .i64 0, .int .i64 0, .int .i64 0] 23)).alloc (.cells #[.int .i64 0, .int .i64 0, .int .i64 0] 23) := ⟨_, rfl⟩
      rw [← hW] at ka kb kc hx ⊢
      clear hW
      have HR4 := Lib.hid (vec_step HR3.out hx)
      have HH4 := Lib.hid (vec_step HH3.out hx)
      have HY4 := Lib.hid (vec_step HY3.out hx)
      have HZ4 := Lib.hid (vec_step HZ3.out hx)
      have HB4 := Lib.hid (HB3.out.trans (hx.mono HB3.out.size))
      have HV4 := Lib.hid (vec_step HV3.out hx)
      clear HR3 HH3 HY3 HZ3 HB3 HV3 hx  
      have HCA4 := Lib.hid (ka)
      have HCB4 := Lib.hid (kb)
      have HCC4 := Lib.hid (kc)
      clear ka kb kc
      go_wp2_with (with_reducible refine store_vec rfl (.tmp 6) (.tmp 40) rfl rfl (w.heap.size + 1 + 1 + 1) 0 0 0 rfl rfl _ _ _ HZ4.out ?_)
      refine bodyPost_ret (results_cell_row rfl _ _ (w.heap.size + 1 + 1 + 1) 23 _ _ _ rfl (setRow_heap _ _ _ _ _ _ HZ4.out) Try.underlying23 rfl vec_size) rfl ?_
      exact ⟨rfl, below_setRow HB4.out (by omega) _⟩
    · rename_i co
      obtain ⟨⟨paX, paY, paZ⟩, ⟨pbX, pbY, pbZ⟩, ⟨pcX, pcY, pcZ⟩⟩ := co
      have HCK := Lib.hid (ok_corners m HOK.out hi_ hco)
      rw [hco] at CCO hres
      unfold cornersR at CCO
      dsimp only [vecV, Option.getD_some, Option.getD_none, Option.isSome_some, Option.isSome_none, v0] at CCO
      dsimp only at hres
      obtain ⟨e, he⟩ : ∃ zz, zz = map2 subF ⟨pbX, pbY, pbZ⟩ ⟨paX, paY, paZ⟩ := ⟨_, rfl⟩
      obtain ⟨f, hf⟩ : ∃ zz, zz = map2 subF ⟨pcX, pcY, pcZ⟩ ⟨paX, paY, paZ⟩ := ⟨_, rfl⟩
      obtain ⟨x, hx_⟩ : ∃ zz, zz = crossF e f := ⟨_, rfl⟩
      obtain ⟨n, hn_⟩ : ∃ zz, zz = unitF x := ⟨_, rfl⟩
      have HTU : Hid (res = turnF n ⟨dX, dY, dZ⟩) := Lib.hid (by rw [hres, ← he, ← hf, ← hx_, ← hn_])
      have oe : e.ok := by rw [he]; exact ok_map2sub _ _
      have of_ : f.ok := by rw [hf]; exact ok_map2sub _ _
      have ox : x.ok := by rw [hx_]; exact ok_cross _ _
      have on : n.ok := by rw [hn_]; exact ok_unit _
      have HNK := Lib.hid on
      have C1 : Hid (∀ w2, Calls Try.prog 31 #[vecV ⟨pbX, pbY, pbZ⟩, vecV ⟨paX, paY, paZ⟩] w2 (VTo (vecV e) w2)) := Lib.hid (fun w2 => by have := vsub_any ⟨pbX, pbY, pbZ⟩ ⟨paX, paY, paZ⟩ HCK.out.2.1 HCK.out.1 w2; rw [← he] at this; exact this)
      have C2 : Hid (∀ w2, Calls Try.prog 31 #[vecV ⟨pcX, pcY, pcZ⟩, vecV ⟨paX, paY, paZ⟩] w2 (VTo (vecV f) w2)) := Lib.hid (fun w2 => by have := vsub_any ⟨pcX, pcY, pcZ⟩ ⟨paX, paY, paZ⟩ HCK.out.2.2 HCK.out.1 w2; rw [← hf] at this; exact this)
      have C3 : Hid (∀ w2, Calls Try.prog 32 #[vecV e, vecV f] w2 (VTo (vecV x) w2)) := Lib.hid (fun w2 => by have := vcross_any e f oe of_ w2; rw [← hx_] at this; exact this)
      have C4 : Hid (∀ w2, Calls Try.prog 41 #[vecV x] w2 (VTo (vecV n) w2)) := Lib.hid (fun w2 => by have := vunit_any x ox w2; rw [← hn_] at this; exact this)
      clear he hf hx_ hn_ oe of_ ox on hres hco
      obtain ⟨eX, eY, eZ⟩ := e
      obtain ⟨fX, fY, fZ⟩ := f
      obtain ⟨xX, xY, xZ⟩ := x
      obtain ⟨nX, nY, nZ⟩ := n
      dsimp only [vecV] at *
      go_enter Try.func16, Try.ntmps16
      go_upto_region 1 with (fail)
      rw [← HWW.out]
      clear HWW
      have cHH1 := cell_row HH0.out 1 _ rfl
      have cHR0 := cell_row HR0.out 0 _ rfl
      have cHR1 := cell_row HR0.out 1 _ rfl
      have cHR2 := cell_row HR0.out 2 _ rfl
      go_wp2_with fail
      refine (CCN.out _ HB0.out).mono ?_
      rintro e y9 ⟨rfl, hb⟩
      have HR1 := Lib.hid (vec_step HR0.out hb)
      have HH1 := Lib.hid (vec_step HH0.out hb)
      have HY1 := Lib.hid (vec_step HY0.out hb)
      have HZ1 := Lib.hid (vec_step HZ0.out hb)
      have HB1 := Lib.hid (HB0.out.trans (hb.mono HB0.out.size))
      clear HR0 HH0 HY0 HZ0 HB0 hb cHH1 cHR0 cHR1 cHR2 
      go_upto_region 5 with (fail)
      have HGE := Lib.hid (Base.lt_of_heap HZ1.out)
      have hx := ext_alloc y9 (.cells #[.int .i64 0, .int .i64 0, .int .i64 0] 23)
      have hn := heap_alloc_new y9 (.cells #[.int .i64 0, .int .i64 0, .int .i64 0] 23)
      obtain ⟨y10, hW⟩ : ∃ ww, ww = y9.alloc (.cells #[.int .i64 0, .int .i64 0, .int .i64 0] 23) := ⟨_, rfl⟩
      rw [← hW] at hx hn ⊢
      clear hW
      have HR2 := Lib.hid (vec_step HR1.out hx)
      have HH2 := Lib.hid (vec_step HH1.out hx)
      have HY2 := Lib.hid (vec_step HY1.out hx)
      have HZ2 := Lib.hid (vec_step HZ1.out hx)
      have HB2 := Lib.hid (HB1.out.trans (hx.mono HB1.out.size))
      clear HR1 HH1 HY1 HZ1 HB1 hx  
      have HV2 := Lib.hid (hn)
      clear hn
      generalize y9.heap.size = gHV at HV2 HGE ⊢
      have cHR0 := cell_row HR2.out 0 _ rfl
      have cHR1 := cell_row HR2.out 1 _ rfl
      have cHR2 := cell_row HR2.out 2 _ rfl
      go_wp2_with fail
      refine (CCO.out _ HB2.out).mono ?_
      rintro e y11 ⟨rfl, hb⟩
      have HR3 := Lib.hid (vec_step HR2.out hb)
      have HH3 := Lib.hid (vec_step HH2.out hb)
      have HY3 := Lib.hid (vec_step HY2.out hb)
      have HZ3 := Lib.hid (vec_step HZ2.out hb)
      have HB3 := Lib.hid (HB2.out.trans (hb.mono HB2.out.size))
      have HV3 := Lib.hid (vec_step HV2.out hb)
      clear HR2 HH2 HY2 HZ2 HB2 HV2 hb cHR0 cHR1 cHR2 
      go_upto_region 7 with (fail)
      obtain ⟨ka, kb, kc, hx⟩ := al3h y11 (.cells #[.int .i64 paX, .int .i64 paY, .int .i64 paZ] 23) (.cells #[.int .i64 pbX, .int .i64 pbY, .int .i64 pbZ] 23) (.cells #[.int .i64 pcX, .int .i64 pcY, .int .i64 pcZ] 23)
      obtain ⟨y12, hW⟩ : ∃ ww, ww = ((y11.alloc (.cells #[.int .i64 paX, .int .i64 paY, .int .i64 paZ] 23)).alloc (.cells #[.int .i64 pbX, .int .i64 pbY, .int .i64 pbZ] 23)).alloc (.cells #[.int .i64 pcX, .int .i64 pcY, .int .i64 pcZ] 23) := ⟨_, rfl⟩
      rw [← hW] at ka kb kc hx ⊢
      clear hW
      have HR4 := Lib.hid (vec_step HR3.out hx)
      have HH4 := Lib.hid (vec_step HH3.out hx)
      have HY4 := Lib.hid (vec_step HY3.out hx)
      have HZ4 := Lib.hid (vec_step HZ3.out hx)
      have HB4 := Lib.hid (HB3.out.trans (hx.mono HB3.out.size))
      have HV4 := Lib.hid (vec_step HV3.out hx)
      clear HR3 HH3 HY3 HZ3 HB3 HV3 hx  
      have HCA4 := Lib.hid (ka)
      have HCB4 := Lib.hid (kb)
      have HCC4 := Lib.hid (kc)
      clear ka kb kc
      go_upto_region 9 with (fail)
      have Q1 := Lib.hid (qb (P := Try.prog) (W := y12) (fun w2 hb => C1.out w2))
      have Q2 := Lib.hid (qb (P := Try.prog) (W := y12) (fun w2 hb => C2.out w2))
      have Q3 := Lib.hid (qb (P := Try.prog) (W := y12) (fun w2 hb => C3.out w2))
      have Q4 := Lib.hid (qb (P := Try.prog) (W := y12) (fun w2 hb => C4.out w2))
      have fHCA0 := fun d os => cell_regrown (cell_row HCA4.out 0 _ rfl) d os
      have fHCA1 := fun d os => cell_regrown (cell_row HCA4.out 1 _ rfl) d os
      have fHCA2 := fun d os => cell_regrown (cell_row HCA4.out 2 _ rfl) d os
      have fHCB0 := fun d os => cell_regrown (cell_row HCB4.out 0 _ rfl) d os
      have fHCB1 := fun d os => cell_regrown (cell_row HCB4.out 1 _ rfl) d os
      have fHCB2 := fun d os => cell_regrown (cell_row HCB4.out 2 _ rfl) d os
      have fHCC0 := fun d os => cell_regrown (cell_row HCC4.out 0 _ rfl) d os
      have fHCC1 := fun d os => cell_regrown (cell_row HCC4.out 1 _ rfl) d os
      have fHCC2 := fun d os => cell_regrown (cell_row HCC4.out 2 _ rfl) d os
      refine wp_region_below_tail 8 (by kernel_rfl) (by kernel_rfl) ?_
      simp only [List.take_succ_cons, List.take_zero, List.drop_succ_cons, List.drop_zero]
      repeat (go_big_quiet_step (first | (with_reducible exact Q1.out _ _) | (with_reducible exact Q2.out _ _) | (with_reducible exact Q3.out _ _) | (with_reducible exact Q4.out _ _)))
      refine wpQuiet_nil ?_
      first | (rintro _ ⟨⟨dq, osq⟩, rfl⟩) | (rintro ⟨dq, osq⟩)
      have hb := below_regrown y12 dq osq
      obtain ⟨y13, hW⟩ : ∃ ww, ww = grow (redrawn y12 dq) osq := ⟨_, rfl⟩
      rw [← hW] at hb ⊢
      clear hW
      have HR5 := Lib.hid (vec_step HR4.out hb)
      have HH5 := Lib.hid (vec_step HH4.out hb)
      have HY5 := Lib.hid (vec_step HY4.out hb)
      have HZ5 := Lib.hid (vec_step HZ4.out hb)
      have HB5 := Lib.hid (HB4.out.trans (hb.mono HB4.out.size))
      have HV5 := Lib.hid (vec_step HV4.out hb)
      have HCA5 := Lib.hid (vec_step HCA4.out hb)
      have HCB5 := Lib.hid (vec_step HCB4.out hb)
      have HCC5 := Lib.hid (vec_step HCC4.out hb)
      clear HR4 HH4 HY4 HZ4 HB4 HV4 HCA4 HCB4 HCC4 hb  fHCA0 fHCA1 fHCA2 fHCB0 fHCB1 fHCB2 fHCC0 fHCC1 fHCC2 Q1 Q2 Q3 Q4 C1 C2 C3 C4
      refine store_vec rfl (.tmp 8) (.tmp 48) rfl rfl gHV nX nY nZ rfl rfl _ _ _ HV5.out ?_
      have HZ80 := Lib.hid ((setRow_other y13 gHV (w.heap.size + 1 + 1 + 1) #[.int .i64 nX, .int .i64 nY, .int .i64 nZ] (by have := HGE.out; omega)).trans HZ5.out)
      have HY80 := Lib.hid ((setRow_other y13 gHV (w.heap.size + 1 + 1) #[.int .i64 nX, .int .i64 nY, .int .i64 nZ] (by have := HGE.out; omega)).trans HY5.out)
      have HV80 := Lib.hid (setRow_heap y13 gHV _ #[.int .i64 nX, .int .i64 nY, .int .i64 nZ] _ _ HV5.out)
      have HB80 := Lib.hid (below_setRow HB5.out (show w.heap.size ≤ gHV by have := HGE.out; omega) #[.int .i64 nX, .int .i64 nY, .int .i64 nZ])
      obtain ⟨y14, hW8⟩ : ∃ ww, ww = y13.setRow gHV #[.int .i64 nX, .int .i64 nY, .int .i64 nZ] := ⟨_, rfl⟩
      rw [← hW8] at HZ80 HY80 HV80 HB80 ⊢
      clear hW8 HR5 HH5 HY5 HZ5 HB5 HV5 HCA5 HCB5 HCC5
      obtain ⟨dt, hdt⟩ : ∃ zz, zz = dotF ⟨nX, nY, nZ⟩ ⟨dX, dY, dZ⟩ := ⟨_, rfl⟩
      have CDT : Hid (∀ w2, Calls Try.prog 33 #[.agg #[.int .i64 nX, .int .i64 nY, .int .i64 nZ], .agg #[.int .i64 dX, .int .i64 dY, .int .i64 dZ]] w2 (VTo (.int .i64 dt) w2)) := Lib.hid (fun w2 => by have := vdot_any ⟨nX, nY, nZ⟩ ⟨dX, dY, dZ⟩ HNK.out HRK.out.2 w2; rw [← hdt] at this; exact this)
      have HT2 : Hid (res = if 0 < dt then map1 negF ⟨nX, nY, nZ⟩ else ⟨nX, nY, nZ⟩) := Lib.hid (by rw [HTU.out]; unfold turnF; rw [← hdt])
      clear hdt HTU
      have cHV0 := cell_row HV80.out 0 _ rfl
      have cHV1 := cell_row HV80.out 1 _ rfl
      have cHV2 := cell_row HV80.out 2 _ rfl
      have cHY3 := cell_row HY80.out 3 _ rfl
      have cHY4 := cell_row HY80.out 4 _ rfl
      have cHY5 := cell_row HY80.out 5 _ rfl
      go_wp2_with fail
      refine (CDT.out _).mono ?_
      rintro e y15 ⟨rfl, hb⟩
      have HZ81 := Lib.hid (vec_step HZ80.out hb)
      have HY81 := Lib.hid (vec_step HY80.out hb)
      have HV81 := Lib.hid (vec_step HV80.out hb)
      have HB81 := Lib.hid (HB80.out.trans (hb.mono HB80.out.size))
      clear HZ80 HY80 HV80 HB80 hb cHV0 cHV1 cHV2 cHY3 cHY4 cHY5 CDT
      by_cases h5 : 0 < dt
      · have d5 : decide (0 < dt) = true := decide_eq_true h5
        have hr0 : res = map1 negF ⟨nX, nY, nZ⟩ := by rw [HT2.out, if_pos h5]
        obtain ⟨⟨mX, mY, mZ⟩, hmm⟩ : ∃ zz, zz = map1 negF ⟨nX, nY, nZ⟩ := ⟨_, rfl⟩
        have CNG : Hid (∀ w2, Calls Try.prog 44 #[.agg #[.int .i64 nX, .int .i64 nY, .int .i64 nZ]] w2 (VTo (.agg #[.int .i64 mX, .int .i64 mY, .int .i64 mZ]) w2)) := Lib.hid (fun w2 => by have := vneg_any ⟨nX, nY, nZ⟩ HNK.out w2; rw [← hmm] at this; exact this)
        rw [← hmm] at hr0
        subst hr0
        clear hmm HT2
        have cHV0 := cell_row HV81.out 0 _ rfl
        have cHV1 := cell_row HV81.out 1 _ rfl
        have cHV2 := cell_row HV81.out 2 _ rfl
        go_wp2_with fail
        refine (CNG.out _).mono ?_
        rintro e y16 ⟨rfl, hb⟩
        have HZ82 := Lib.hid (vec_step HZ81.out hb)
        have HY82 := Lib.hid (vec_step HY81.out hb)
        have HV82 := Lib.hid (vec_step HV81.out hb)
        have HB82 := Lib.hid (HB81.out.trans (hb.mono HB81.out.size))
        clear HZ81 HY81 HV81 HB81 hb cHV0 cHV1 cHV2 CNG
        go_upto_region 14 with (with_reducible refine store_vec rfl (.tmp 8) (.tmp 76) rfl rfl gHV mX mY mZ rfl rfl _ _ _ HV82.out ?_)
        have HZ90 := Lib.hid ((setRow_other y16 gHV (w.heap.size + 1 + 1 + 1) #[.int .i64 mX, .int .i64 mY, .int .i64 mZ] (by have := HGE.out; omega)).trans HZ82.out)
        have HV90 := Lib.hid (setRow_heap y16 gHV _ #[.int .i64 mX, .int .i64 mY, .int .i64 mZ] _ _ HV82.out)
        have HB90 := Lib.hid (below_setRow HB82.out (show w.heap.size ≤ gHV by have := HGE.out; omega) #[.int .i64 mX, .int .i64 mY, .int .i64 mZ])
        obtain ⟨W8, hW8⟩ : ∃ ww, ww = y16.setRow gHV #[.int .i64 mX, .int .i64 mY, .int .i64 mZ] := ⟨_, rfl⟩
        rw [← hW8] at HZ90 HV90 HB90 ⊢
        clear hW8
        have cHV0 := cell_row HV90.out 0 _ rfl
        have cHV1 := cell_row HV90.out 1 _ rfl
        have cHV2 := cell_row HV90.out 2 _ rfl
        go_wp2_with (with_reducible refine store_vec rfl (.tmp 6) (.tmp 77) rfl rfl (w.heap.size + 1 + 1 + 1) mX mY mZ rfl rfl _ _ _ HZ90.out ?_)
        refine bodyPost_ret (results_cell_row rfl _ _ (w.heap.size + 1 + 1 + 1) 23 _ _ _ rfl (setRow_heap _ _ _ _ _ _ HZ90.out) Try.underlying23 rfl vec_size) rfl ?_
        exact ⟨rfl, below_setRow HB90.out (by omega) _⟩
      · have d5 : decide (0 < dt) = false := decide_eq_false h5
        have hr0 : res = ⟨nX, nY, nZ⟩ := by rw [HT2.out, if_neg h5]
        subst hr0
        clear HT2
        have cHV0 := cell_row HV81.out 0 _ rfl
        have cHV1 := cell_row HV81.out 1 _ rfl
        have cHV2 := cell_row HV81.out 2 _ rfl
        go_wp2_with (with_reducible refine store_vec rfl (.tmp 6) (.tmp 77) rfl rfl (w.heap.size + 1 + 1 + 1) nX nY nZ rfl rfl _ _ _ HZ81.out ?_)
        refine bodyPost_ret (results_cell_row rfl _ _ (w.heap.size + 1 + 1 + 1) 23 _ _ _ rfl (setRow_heap _ _ _ _ _ _ HZ81.out) Try.underlying23 rfl vec_size) rfl ?_
        exact ⟨rfl, below_setRow HB81.out (by omega) _⟩
  · have d2 : decide (hi_ < (m.ts.length : Int)) = false := decide_eq_false h2
    rw [if_neg h2] at hres
    obtain ⟨j, hij⟩ : ∃ j : Nat, (j : Int) = hi_ - (m.ts.length : Int) := ⟨(hi_ - (m.ts.length : Int)).toNat, by omega⟩
    have hj : j < m.bs.length := by omega
    have wr_ : IntKind.i64.wrap (hi_ - (m.ts.length : Int)) = (j : Int) := by rw [wrap_in (by omega) (by have := hi.2; omega)]; omega
    have hjd : decide (j < m.bs.length) = true := decide_eq_true hj
    have hjd2 : decide ((j : Int) < (m.bs.length : Int)) = true := decide_eq_true (by omega)
    have hba : ballAt m hi_ = m.bs[j] := by unfold ballAt; rw [← hij]; simp [hj]
    obtain ⟨⟨⟨bX, bY, bZ⟩, br⟩, hbj⟩ : ∃ zz, zz = m.bs[j] := ⟨_, rfl⟩
    have okj : (⟨bX, bY, bZ⟩ : V3).ok ∧ In br := by have := HOK.out.bs m.bs[j] (List.getElem_mem hj); rw [← hbj] at this; exact this
    have HBO := Lib.hid okj.1
    rw [← hbj] at hba
    have HBJ := Lib.hid (fun h : j < m.bs.length => (hbj.symm : m.bs[j]'h = _))
    rw [hba] at hres
    dsimp only at hres
    clear okj hbj hij hba h0 h1 h2 HN CCO
    obtain ⟨e, he⟩ : ∃ zz, zz = map1 (fun x => mulF x ht) ⟨dX, dY, dZ⟩ := ⟨_, rfl⟩
    obtain ⟨f, hf⟩ : ∃ zz, zz = map2 addF ⟨oX, oY, oZ⟩ e := ⟨_, rfl⟩
    obtain ⟨x, hx_⟩ : ∃ zz, zz = map2 subF f ⟨bX, bY, bZ⟩ := ⟨_, rfl⟩
    obtain ⟨n, hn_⟩ : ∃ zz, zz = unitF x := ⟨_, rfl⟩
    have HTU : Hid (res = turnF n ⟨dX, dY, dZ⟩) := Lib.hid (by rw [hres, ← he, ← hf, ← hx_, ← hn_])
    have oe : e.ok := by rw [he]; exact ok_scale _ _
    have of_ : f.ok := by rw [hf]; exact ok_map2add _ _
    have ox : x.ok := by rw [hx_]; exact ok_map2sub _ _
    have on : n.ok := by rw [hn_]; exact ok_unit _
    have HNK := Lib.hid on
    have C1 : Hid (∀ w2, Calls Try.prog 43 #[vecV ⟨dX, dY, dZ⟩, .int .i64 ht] w2 (VTo (vecV e) w2)) := Lib.hid (fun w2 => by have := vscale_any ⟨dX, dY, dZ⟩ ht HRK.out.2 HTK.out w2; rw [← he] at this; exact this)
    have C2 : Hid (∀ w2, Calls Try.prog 42 #[vecV ⟨oX, oY, oZ⟩, vecV e] w2 (VTo (vecV f) w2)) := Lib.hid (fun w2 => by have := vadd_any ⟨oX, oY, oZ⟩ e HRK.out.1 oe w2; rw [← hf] at this; exact this)
    have C3 : Hid (∀ w2, Calls Try.prog 31 #[vecV f, vecV ⟨bX, bY, bZ⟩] w2 (VTo (vecV x) w2)) := Lib.hid (fun w2 => by have := vsub_any f ⟨bX, bY, bZ⟩ of_ HBO.out w2; rw [← hx_] at this; exact this)
    have C4 : Hid (∀ w2, Calls Try.prog 41 #[vecV x] w2 (VTo (vecV n) w2)) := Lib.hid (fun w2 => by have := vunit_any x ox w2; rw [← hn_] at this; exact this)
    clear he hf hx_ hn_ oe of_ ox on hres
    obtain ⟨eX, eY, eZ⟩ := e
    obtain ⟨fX, fY, fZ⟩ := f
    obtain ⟨xX, xY, xZ⟩ := x
    obtain ⟨nX, nY, nZ⟩ := n
    dsimp only [vecV] at *
    go_enter Try.func16, Try.ntmps16
    go_upto_region 1 with (fail)
    rw [← HWW.out]
    clear HWW
    have cHH1 := cell_row HH0.out 1 _ rfl
    have cHR0 := cell_row HR0.out 0 _ rfl
    have cHR1 := cell_row HR0.out 1 _ rfl
    have cHR2 := cell_row HR0.out 2 _ rfl
    go_wp2_with fail
    refine (CCN.out _ HB0.out).mono ?_
    rintro e y17 ⟨rfl, hb⟩
    have HR1 := Lib.hid (vec_step HR0.out hb)
    have HH1 := Lib.hid (vec_step HH0.out hb)
    have HY1 := Lib.hid (vec_step HY0.out hb)
    have HZ1 := Lib.hid (vec_step HZ0.out hb)
    have HB1 := Lib.hid (HB0.out.trans (hb.mono HB0.out.size))
    clear HR0 HH0 HY0 HZ0 HB0 hb cHH1 cHR0 cHR1 cHR2 
    go_upto_region 5 with (fail)
    have HGE := Lib.hid (Base.lt_of_heap HZ1.out)
    have hx := ext_alloc y17 (.cells #[.int .i64 0, .int .i64 0, .int .i64 0] 23)
    have hn := heap_alloc_new y17 (.cells #[.int .i64 0, .int .i64 0, .int .i64 0] 23)
    obtain ⟨y18, hW⟩ : ∃ ww, ww = y17.alloc (.cells #[.int .i64 0, .int .i64 0, .int .i64 0] 23) := ⟨_, rfl⟩
    rw [← hW] at hx hn ⊢
    clear hW
    have HR2 := Lib.hid (vec_step HR1.out hx)
    have HH2 := Lib.hid (vec_step HH1.out hx)
    have HY2 := Lib.hid (vec_step HY1.out hx)
    have HZ2 := Lib.hid (vec_step HZ1.out hx)
    have HB2 := Lib.hid (HB1.out.trans (hx.mono HB1.out.size))
    clear HR1 HH1 HY1 HZ1 HB1 hx  
    have HV2 := Lib.hid (hn)
    clear hn
    generalize y17.heap.size = gHV at HV2 HGE ⊢
    have cHR0 := cell_row HR2.out 0 _ rfl
    have cHR1 := cell_row HR2.out 1 _ rfl
    have cHR2 := cell_row HR2.out 2 _ rfl
    go_upto_region 10 with (fail)
    clear cHR0 cHR1 cHR2
    have QA := Lib.hid (fun W => qb (P := Try.prog) (W := W) (fun w2 _ => C1.out w2))
    have QB := Lib.hid (fun W => qb (P := Try.prog) (W := W) (fun w2 _ => C2.out w2))
    refine wp_region_free 78 [0, 1, 2, 3, 4, 5, 6, 7] [⟨8, 13, #[.int .i64 0, .int .i64 0, .int .i64 0], 23, 9, 56, #[.int .i64 fX, .int .i64 fY, .int .i64 fZ]⟩] (by kernel_rfl) rfl (by kernel_rfl) (by
      intro x hx
      simp only [List.mem_cons, List.not_mem_nil, or_false] at hx
      subst hx
      exact ⟨⟨_, rfl, ⟨⟨_, rfl, HitT.alloc_vec⟩, rfl, rfl⟩⟩, _, rfl, ⟨⟨_, rfl, vec_size⟩, rfl, rfl, rfl, row_one _ _ _⟩⟩) ?_
    refine Walk.step (A := ?A0) (o := ?o0) ?e0 ?w0 49 ?d0 (by simp) ?h0 ?n0
    case e0 => simp only [List.getElem?_toArray, List.getElem?_cons_succ, List.getElem?_cons_zero]; exact rfl
    case w0 => exact rfl
    case d0 => exact rfl
    case h0 =>
      intro W9 hW9
      go_big_quiet_op
      exact rfl
    refine Walk.step (A := ?A1) (o := ?o1) ?e1 ?w1 50 ?d1 (by simp) ?h1 ?n1
    case e1 => simp only [List.getElem?_toArray, List.getElem?_cons_succ, List.getElem?_cons_zero]; exact rfl
    case w1 => exact rfl
    case d1 => exact rfl
    case h1 =>
      intro W9 hW9
      have z0 := cell_all (vec_step HY2.out hW9) 0 _ rfl
      have z1 := cell_all (vec_step HY2.out hW9) 1 _ rfl
      have z2 := cell_all (vec_step HY2.out hW9) 2 _ rfl
      go_big_quiet_op
      exact rfl
    refine Walk.step (A := ?A2) (o := ?o2) ?e2 ?w2 51 ?d2 (by simp) ?h2 ?n2
    case e2 => simp only [List.getElem?_toArray, List.getElem?_cons_succ, List.getElem?_cons_zero]; exact rfl
    case w2 => exact rfl
    case d2 => exact rfl
    case h2 =>
      intro W9 hW9
      go_big_quiet_op
      exact rfl
    refine Walk.step (A := ?A3) (o := ?o3) ?e3 ?w3 52 ?d3 (by simp) ?h3 ?n3
    case e3 => simp only [List.getElem?_toArray, List.getElem?_cons_succ, List.getElem?_cons_zero]; exact rfl
    case w3 => exact rfl
    case d3 => exact rfl
    case h3 =>
      intro W9 hW9
      have z3 := cell_all (vec_step HY2.out hW9) 3 _ rfl
      have z4 := cell_all (vec_step HY2.out hW9) 4 _ rfl
      have z5 := cell_all (vec_step HY2.out hW9) 5 _ rfl
      go_big_quiet_op
      exact rfl
    refine Walk.step (A := ?A4) (o := ?o4) ?e4 ?w4 53 ?d4 (by simp) ?h4 ?n4
    case e4 => simp only [List.getElem?_toArray, List.getElem?_cons_succ, List.getElem?_cons_zero]; exact rfl
    case w4 => exact rfl
    case d4 => exact rfl
    case h4 =>
      intro W9 hW9
      go_big_quiet_op
      exact rfl
    refine Walk.step (A := ?A5) (o := ?o5) ?e5 ?w5 54 ?d5 (by simp) ?h5 ?n5
    case e5 => simp only [List.getElem?_toArray, List.getElem?_cons_succ, List.getElem?_cons_zero]; exact rfl
    case w5 => exact rfl
    case d5 => exact rfl
    case h5 =>
      intro W9 hW9
      have z0 := cell_all (vec_step HH2.out hW9) 0 _ rfl
      go_big_quiet_op
      exact rfl
    refine Walk.step (A := ?A6) (o := ?o6) ?e6 ?w6 55 ?d6 (by simp) ?h6 ?n6
    case e6 => simp only [List.getElem?_toArray, List.getElem?_cons_succ, List.getElem?_cons_zero]; exact rfl
    case w6 => exact rfl
    case d6 => exact rfl
    case h6 =>
      intro W9 hW9
      go_big_quiet_op
      apply Exists.intro
      refine ⟨fun _ => ?_, ?_⟩
      · with_reducible exact QA.out _ _ _
      exact rfl
    refine Walk.step (A := ?A7) (o := ?o7) ?e7 ?w7 56 ?d7 (by simp) ?h7 ?n7
    case e7 => simp only [List.getElem?_toArray, List.getElem?_cons_succ, List.getElem?_cons_zero]; exact rfl
    case w7 => exact rfl
    case d7 => exact rfl
    case h7 =>
      intro W9 hW9
      go_big_quiet_op
      apply Exists.intro
      refine ⟨fun _ => ?_, ?_⟩
      · with_reducible exact QB.out _ _ _
      exact rfl
    refine ⟨?_, ?_⟩
    · intro x hx
      simp only [List.mem_cons, List.not_mem_nil, or_false] at hx
      subst hx
      rfl
    intro G hG hne y19 hb hk
    have k7 := hk _ (List.mem_cons_self ..)
    dsimp only at k7
    simp only [lay, Act.put, List.setIfInBounds_toArray, List.set_cons_succ, List.set_cons_zero, ptr]
    generalize G 8 = g13 at k7 ⊢
    clear hG hne hk QA QB C1 C2
    have HR3 := Lib.hid (vec_step HR2.out hb)
    have HH3 := Lib.hid (vec_step HH2.out hb)
    have HY3 := Lib.hid (vec_step HY2.out hb)
    have HZ3 := Lib.hid (vec_step HZ2.out hb)
    have HB3 := Lib.hid (HB2.out.trans (hb.mono HB2.out.size))
    have HV3 := Lib.hid (vec_step HV2.out hb)
    clear HR2 HH2 HY2 HZ2 HB2 HV2 hb  
    have HAT3 := Lib.hid (k7)
    clear k7
    go_upto_region 11 with (fail)
    obtain ⟨b9, o9, e, -, u0, u1, u2, u3⟩ := at4 (HBS0_.out.below HB3.out (Nat.le_refl _)) j hj
    subst e
    rw [HBJ.out hj] at u0 u1 u2 u3
    dsimp only at u0 u1 u2 u3
    have fu0 := fun d os => cell_regrown u0 d os
    have fu1 := fun d os => cell_regrown u1 d os
    have fu2 := fun d os => cell_regrown u2 d os
    have fu3 := fun d os => cell_regrown u3 d os
    clear u0 u1 u2 u3
    have Q3 := Lib.hid (qb (P := Try.prog) (W := y19) (fun w2 hb => C3.out w2))
    have Q4 := Lib.hid (qb (P := Try.prog) (W := y19) (fun w2 hb => C4.out w2))
    have fHAT0 := fun d os => cell_regrown (cell_row HAT3.out 0 _ rfl) d os
    have fHAT1 := fun d os => cell_regrown (cell_row HAT3.out 1 _ rfl) d os
    have fHAT2 := fun d os => cell_regrown (cell_row HAT3.out 2 _ rfl) d os
    have fHR0 := fun d os => cell_regrown (cell_row HR3.out 0 _ rfl) d os
    have fHR1 := fun d os => cell_regrown (cell_row HR3.out 1 _ rfl) d os
    have fHR2 := fun d os => cell_regrown (cell_row HR3.out 2 _ rfl) d os
    refine wp_region_below_tail 13 (by kernel_rfl) (by kernel_rfl) ?_
    simp only [List.take_succ_cons, List.take_zero, List.drop_succ_cons, List.drop_zero]
    repeat (go_big_quiet_step (first | (with_reducible exact Q3.out _ _) | (with_reducible exact Q4.out _ _)))
    refine wpQuiet_nil ?_
    first | (rintro _ ⟨⟨dq, osq⟩, rfl⟩) | (rintro ⟨dq, osq⟩)
    have hb := below_regrown y19 dq osq
    obtain ⟨y20, hW⟩ : ∃ ww, ww = grow (redrawn y19 dq) osq := ⟨_, rfl⟩
    rw [← hW] at hb ⊢
    clear hW
    have HR4 := Lib.hid (vec_step HR3.out hb)
    have HH4 := Lib.hid (vec_step HH3.out hb)
    have HY4 := Lib.hid (vec_step HY3.out hb)
    have HZ4 := Lib.hid (vec_step HZ3.out hb)
    have HB4 := Lib.hid (HB3.out.trans (hb.mono HB3.out.size))
    have HV4 := Lib.hid (vec_step HV3.out hb)
    have HAT4 := Lib.hid (vec_step HAT3.out hb)
    clear HR3 HH3 HY3 HZ3 HB3 HV3 HAT3 hb  fHAT0 fHAT1 fHAT2 fHR0 fHR1 fHR2 Q3 Q4 C3 C4 fu0 fu1 fu2 fu3
    refine store_vec rfl (.tmp 8) (.tmp 69) rfl rfl gHV nX nY nZ rfl rfl _ _ _ HV4.out ?_
    have HZ80 := Lib.hid ((setRow_other y20 gHV (w.heap.size + 1 + 1 + 1) #[.int .i64 nX, .int .i64 nY, .int .i64 nZ] (by have := HGE.out; omega)).trans HZ4.out)
    have HY80 := Lib.hid ((setRow_other y20 gHV (w.heap.size + 1 + 1) #[.int .i64 nX, .int .i64 nY, .int .i64 nZ] (by have := HGE.out; omega)).trans HY4.out)
    have HV80 := Lib.hid (setRow_heap y20 gHV _ #[.int .i64 nX, .int .i64 nY, .int .i64 nZ] _ _ HV4.out)
    have HB80 := Lib.hid (below_setRow HB4.out (show w.heap.size ≤ gHV by have := HGE.out; omega) #[.int .i64 nX, .int .i64 nY, .int .i64 nZ])
    obtain ⟨y21, hW8⟩ : ∃ ww, ww = y20.setRow gHV #[.int .i64 nX, .int .i64 nY, .int .i64 nZ] := ⟨_, rfl⟩
    rw [← hW8] at HZ80 HY80 HV80 HB80 ⊢
    clear hW8 HR4 HH4 HY4 HZ4 HB4 HV4 HAT4
    obtain ⟨dt, hdt⟩ : ∃ zz, zz = dotF ⟨nX, nY, nZ⟩ ⟨dX, dY, dZ⟩ := ⟨_, rfl⟩
    have CDT : Hid (∀ w2, Calls Try.prog 33 #[.agg #[.int .i64 nX, .int .i64 nY, .int .i64 nZ], .agg #[.int .i64 dX, .int .i64 dY, .int .i64 dZ]] w2 (VTo (.int .i64 dt) w2)) := Lib.hid (fun w2 => by have := vdot_any ⟨nX, nY, nZ⟩ ⟨dX, dY, dZ⟩ HNK.out HRK.out.2 w2; rw [← hdt] at this; exact this)
    have HT2 : Hid (res = if 0 < dt then map1 negF ⟨nX, nY, nZ⟩ else ⟨nX, nY, nZ⟩) := Lib.hid (by rw [HTU.out]; unfold turnF; rw [← hdt])
    clear hdt HTU
    have cHV0 := cell_row HV80.out 0 _ rfl
    have cHV1 := cell_row HV80.out 1 _ rfl
    have cHV2 := cell_row HV80.out 2 _ rfl
    have cHY3 := cell_row HY80.out 3 _ rfl
    have cHY4 := cell_row HY80.out 4 _ rfl
    have cHY5 := cell_row HY80.out 5 _ rfl
    go_wp2_with fail
    refine (CDT.out _).mono ?_
    rintro e y22 ⟨rfl, hb⟩
    have HZ81 := Lib.hid (vec_step HZ80.out hb)
    have HY81 := Lib.hid (vec_step HY80.out hb)
    have HV81 := Lib.hid (vec_step HV80.out hb)
    have HB81 := Lib.hid (HB80.out.trans (hb.mono HB80.out.size))
    clear HZ80 HY80 HV80 HB80 hb cHV0 cHV1 cHV2 cHY3 cHY4 cHY5 CDT
    by_cases h5 : 0 < dt
    · have d5 : decide (0 < dt) = true := decide_eq_true h5
      have hr0 : res = map1 negF ⟨nX, nY, nZ⟩ := by rw [HT2.out, if_pos h5]
      obtain ⟨⟨mX, mY, mZ⟩, hmm⟩ : ∃ zz, zz = map1 negF ⟨nX, nY, nZ⟩ := ⟨_, rfl⟩
      have CNG : Hid (∀ w2, Calls Try.prog 44 #[.agg #[.int .i64 nX, .int .i64 nY, .int .i64 nZ]] w2 (VTo (.agg #[.int .i64 mX, .int .i64 mY, .int .i64 mZ]) w2)) := Lib.hid (fun w2 => by have := vneg_any ⟨nX, nY, nZ⟩ HNK.out w2; rw [← hmm] at this; exact this)
      rw [← hmm] at hr0
      subst hr0
      clear hmm HT2
      have cHV0 := cell_row HV81.out 0 _ rfl
      have cHV1 := cell_row HV81.out 1 _ rfl
      have cHV2 := cell_row HV81.out 2 _ rfl
      go_wp2_with fail
      refine (CNG.out _).mono ?_
      rintro e y23 ⟨rfl, hb⟩
      have HZ82 := Lib.hid (vec_step HZ81.out hb)
      have HY82 := Lib.hid (vec_step HY81.out hb)
      have HV82 := Lib.hid (vec_step HV81.out hb)
      have HB82 := Lib.hid (HB81.out.trans (hb.mono HB81.out.size))
      clear HZ81 HY81 HV81 HB81 hb cHV0 cHV1 cHV2 CNG
      go_upto_region 14 with (with_reducible refine store_vec rfl (.tmp 8) (.tmp 76) rfl rfl gHV mX mY mZ rfl rfl _ _ _ HV82.out ?_)
      have HZ90 := Lib.hid ((setRow_other y23 gHV (w.heap.size + 1 + 1 + 1) #[.int .i64 mX, .int .i64 mY, .int .i64 mZ] (by have := HGE.out; omega)).trans HZ82.out)
      have HV90 := Lib.hid (setRow_heap y23 gHV _ #[.int .i64 mX, .int .i64 mY, .int .i64 mZ] _ _ HV82.out)
      have HB90 := Lib.hid (below_setRow HB82.out (show w.heap.size ≤ gHV by have := HGE.out; omega) #[.int .i64 mX, .int .i64 mY, .int .i64 mZ])
      obtain ⟨W8, hW8⟩ : ∃ ww, ww = y23.setRow gHV #[.int .i64 mX, .int .i64 mY, .int .i64 mZ] := ⟨_, rfl⟩
      rw [← hW8] at HZ90 HV90 HB90 ⊢
      clear hW8
      have cHV0 := cell_row HV90.out 0 _ rfl
      have cHV1 := cell_row HV90.out 1 _ rfl
      have cHV2 := cell_row HV90.out 2 _ rfl
      go_wp2_with (with_reducible refine store_vec rfl (.tmp 6) (.tmp 77) rfl rfl (w.heap.size + 1 + 1 + 1) mX mY mZ rfl rfl _ _ _ HZ90.out ?_)
      refine bodyPost_ret (results_cell_row rfl _ _ (w.heap.size + 1 + 1 + 1) 23 _ _ _ rfl (setRow_heap _ _ _ _ _ _ HZ90.out) Try.underlying23 rfl vec_size) rfl ?_
      exact ⟨rfl, below_setRow HB90.out (by omega) _⟩
    · have d5 : decide (0 < dt) = false := decide_eq_false h5
      have hr0 : res = ⟨nX, nY, nZ⟩ := by rw [HT2.out, if_neg h5]
      subst hr0
      clear HT2
      have cHV0 := cell_row HV81.out 0 _ rfl
      have cHV1 := cell_row HV81.out 1 _ rfl
      have cHV2 := cell_row HV81.out 2 _ rfl
      go_wp2_with (with_reducible refine store_vec rfl (.tmp 6) (.tmp 77) rfl rfl (w.heap.size + 1 + 1 + 1) nX nY nZ rfl rfl _ _ _ HZ81.out ?_)
      refine bodyPost_ret (results_cell_row rfl _ _ (w.heap.size + 1 + 1 + 1) 23 _ _ _ rfl (setRow_heap _ _ _ _ _ _ HZ81.out) Try.underlying23 rfl vec_size) rfl ?_
      exact ⟨rfl, below_setRow HB81.out (by omega) _⟩

end Go.Proofs.Ytdmmbhcaejojeaa.HitV
