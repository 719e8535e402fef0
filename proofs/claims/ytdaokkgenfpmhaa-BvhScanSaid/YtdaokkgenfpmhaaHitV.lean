/- The walks of hit.Scan and hit.Normal. -/
import Derived.Test.YtdaokkgenfpmhaaHitS
set_option linter.unusedVariables false
set_option linter.unusedSimpArgs false
namespace Go.Proofs.Ytdaokkgenfpmhaa.HitV
open Go.RowKit Go.Sort FixM Base Num FixW Qb Qt Qa Qf Qg VecW VecV VecU LightQ LightC MeshM Rec MeshA MeshB MeshC MeshD MeshE MeshP HitM HitT HitB HitX HitN HitC HitS
theorem none_lit (w : World) : Calls Try.prog 31 #[] w (VTo (.agg #[.int .i64 0, .int .i64 (-1), .int .i64 0, .int .i64 0]) w) := none_any w
abbrev hrow (h : Ht) : Array Value := #[.int .i64 h.t, .int .i64 h.i, .int .i64 h.u, .int .i64 h.v]
def scanTo (m : Msh) (r : Ry) (least : Int) (k : Nat) : Ht := (List.range k).foldl (scanStep m r least) htN
theorem scanTo_next (m : Msh) (r : Ry) (least : Int) (k : Nat) : scanTo m r least (k + 1) = scanStep m r least (scanTo m r least k) k := by
  unfold scanTo; rw [List.range_succ, List.foldl_append]; rfl
/-- the loop's state: the best so far in block g -/
structure Sc (w W wr : World) (g : Nat) (h : Ht) : Prop where
  row : wr.heap[g]? = some (.cells (hrow h) 38)
  hb : Below w.heap.size w wr
  k : Keeps (fun j => j = g) W wr
theorem Sc.step {w W wr w' : World} {g : Nat} {h : Ht} (s : Sc w W wr g h) (hb : Below wr.heap.size wr w') : Sc w W w' g h :=
  ⟨vec_step s.row hb, s.hb.trans (hb.mono s.hb.size), s.k.trans (Keeps.of_ext hb _) (fun k hk => .inl hk)⟩
theorem Sc.put {w W wr : World} {g : Nat} {h h' : Ht} (s : Sc w W wr g h) (hg : w.heap.size ≤ g) : Sc w W (wr.setRow g (hrow h')) g h' :=
  ⟨setRow_heap _ _ _ _ _ _ s.row, below_setRow s.hb hg _, s.k.setRow g _ (.inl rfl)⟩

set_option maxRecDepth 100000 in
set_option maxHeartbeats 16000000 in
theorem scan_any (v : Value) (m : Msh) (w : World) (hm : IsMesh w v m) (ok : m.ok) (hl : m.ts.length + m.bs.length ≤ 9223372036854775807) (r : Ry) (hr : r.ok) (least : Int) : Calls Try.prog 13 #[v, rayV r, .int .i64 least] w (VTo (hitV (scanF m r least)) w) := by
  have CCN := Lib.hid (fun w2 (hb : Below w.heap.size w w2) => count_any v m w2 (hm.below hb) hl)
  have CSH := Lib.hid (fun w2 (hb : Below w.heap.size w w2) (k : Nat) (hk : k < m.ts.length + m.bs.length) => shape_any v m w2 (hm.below hb) ok hl (k : Int) ⟨by omega, by omega⟩ r hr least)
  have HNX := Lib.hid (scanTo_next m r least)
  have HST : Hid (∀ best k, scanStep m r least best k = match shapeF m (k : Int) r least with | none => best | some h => if best.i < 0 ∨ h.t < best.t then h else best) := Lib.hid (fun _ _ => rfl)
  have HRS := Lib.hid (show scanF m r least = scanTo m r least (m.ts.length + m.bs.length) from rfl)
  have H00 := Lib.hid (show scanTo m r least 0 = htN from rfl)
  generalize scanF m r least = res at HRS ⊢
  generalize scanTo m r least = sc at HNX HRS H00
  obtain ⟨N, hN⟩ : ∃ zz, zz = m.ts.length + m.bs.length := ⟨_, rfl⟩
  rw [← hN] at CCN CSH HRS hl
  clear hN
  obtain ⟨a0, c0, a1, c1, a2, c2, rfl, -⟩ := hm.open_
  have HKX : Hid (∀ k : Nat, ∃ x, x = shapeF m (k : Int) r least) := Lib.hid (fun _ => ⟨_, rfl⟩)
  obtain ⟨shp, hshp⟩ : ∃ zz : Nat → Option Ht, zz = fun k : Nat => shapeF m (k : Int) r least := ⟨_, rfl⟩
  have HST2 : Hid (∀ best k, scanStep m r least best k = match shp k with | none => best | some h => if best.i < 0 ∨ h.t < best.t then h else best) := Lib.hid (by rw [hshp]; exact HST.out)
  have CS2 : Hid (∀ w2, Below w.heap.size w w2 → ∀ k : Nat, k < N → Calls Try.prog 15 #[.agg #[.slice a0 m.ps.length c0, .slice a1 m.ts.length c1, .slice a2 m.bs.length c2], .int .i64 (k : Int), rayV r, .int .i64 least] w2 (VTo (shapeR (shp k)) w2)) := Lib.hid (by rw [hshp]; exact CSH.out)
  have HNX2 : Hid (∀ k, sc (k + 1) = match shp k with | none => sc k | some h => if (sc k).i < 0 ∨ h.t < (sc k).t then h else sc k) := Lib.hid (fun k => by rw [HNX.out, HST2.out])
  clear hshp HST HST2 CSH HNX HKX
  obtain ⟨⟨oX, oY, oZ⟩, ⟨dX, dY, dZ⟩⟩ := r
  dsimp only [rayV] at *
  obtain ⟨hA, hB_, hC, hB0⟩ := al3h w (.cells #[.slice a0 m.ps.length c0, .slice a1 m.ts.length c1, .slice a2 m.bs.length c2] 31) (.cells #[.int .i64 oX, .int .i64 oY, .int .i64 oZ, .int .i64 dX, .int .i64 dY, .int .i64 dZ] 25) (.cells #[.int .i64 0, .int .i64 0, .int .i64 0, .int .i64 0] 38)
  obtain ⟨W, hW⟩ : ∃ ww, ww = ((w.alloc (.cells #[.slice a0 m.ps.length c0, .slice a1 m.ts.length c1, .slice a2 m.bs.length c2] 31)).alloc (.cells #[.int .i64 oX, .int .i64 oY, .int .i64 oZ, .int .i64 dX, .int .i64 dY, .int .i64 dZ] 25)).alloc (.cells #[.int .i64 0, .int .i64 0, .int .i64 0, .int .i64 0] 38) := ⟨_, rfl⟩
  rw [← hW] at hA hB_ hC hB0
  have HR0 := Lib.hid hA
  have HY0 := Lib.hid hB_
  have HZ0 := Lib.hid hC
  have HB0 := Lib.hid hB0
  have HWW := Lib.hid hW
  clear hA hB_ hC hB0 hW hm ok hr
  go_enter Try.func13, Try.ntmps13
  go_upto_region 1 with (fail)
  rw [← HWW.out]
  clear HWW
  go_wp2_with fail
  refine (none_lit _).mono ?_
  rintro e y1 ⟨rfl, hb⟩
  have HR1 := Lib.hid (vec_step HR0.out hb)
  have HY1 := Lib.hid (vec_step HY0.out hb)
  have HZ1 := Lib.hid (vec_step HZ0.out hb)
  have HB1 := Lib.hid (HB0.out.trans (hb.mono HB0.out.size))
  clear HR0 HY0 HZ0 HB0 hb  
  go_upto_region 2 with (fail)
  have HGE := Lib.hid (Base.lt_of_heap HZ1.out)
  have hx := ext_alloc y1 (.cells #[.int .i64 0, .int .i64 (-1), .int .i64 0, .int .i64 0] 38)
  have hn := heap_alloc_new y1 (.cells #[.int .i64 0, .int .i64 (-1), .int .i64 0, .int .i64 0] 38)
  obtain ⟨y2, hW⟩ : ∃ ww, ww = y1.alloc (.cells #[.int .i64 0, .int .i64 (-1), .int .i64 0, .int .i64 0] 38) := ⟨_, rfl⟩
  rw [← hW] at hx hn ⊢
  clear hW
  have HR2 := Lib.hid (vec_step HR1.out hx)
  have HY2 := Lib.hid (vec_step HY1.out hx)
  have HZ2 := Lib.hid (vec_step HZ1.out hx)
  have HB2 := Lib.hid (HB1.out.trans (hx.mono HB1.out.size))
  clear HR1 HY1 HZ1 HB1 hx  
  have HBE2 := Lib.hid (hn)
  clear hn
  generalize y1.heap.size = gHBE at HBE2 HGE ⊢
  have cHR0 := cell_row HR2.out 0 _ rfl
  have cHR1 := cell_row HR2.out 1 _ rfl
  have cHR2 := cell_row HR2.out 2 _ rfl
  go_wp2_with fail
  refine (CCN.out _ HB2.out).mono ?_
  rintro e y3 ⟨rfl, hb⟩
  have HR3 := Lib.hid (vec_step HR2.out hb)
  have HY3 := Lib.hid (vec_step HY2.out hb)
  have HZ3 := Lib.hid (vec_step HZ2.out hb)
  have HB3 := Lib.hid (HB2.out.trans (hb.mono HB2.out.size))
  have HBE3 := Lib.hid (vec_step HBE2.out hb)
  clear HR2 HY2 HZ2 HB2 HBE2 hb cHR0 cHR1 cHR2 
  have HS0 := Lib.hid (show Sc w y3 y3 gHBE (sc 0) from ⟨by rw [H00.out]; exact HBE3.out, HB3.out, Keeps.refl _ _⟩)
  clear HBE3 H00
  go_wp2_with fail
  go_loopg [14] N (fun r n9 wr => ∃ k : Nat, k + r = N ∧ n9 = .int .i64 (k : Int) ∧ Hid (Sc w y3 wr gHBE (sc k)))
  case atStart => exact ⟨0, by omega, rfl, HS0⟩
  case round =>
    obtain ⟨k, hkr, rfl, hin⟩ := hrel
    have HR9 := Lib.hid (keep_cell hin.out.k HR3.out (fun e => by have := HGE.out; omega))
    have HY9 := Lib.hid (keep_cell hin.out.k HY3.out (fun e => by have := HGE.out; omega))
    have HZ9 := Lib.hid (keep_cell hin.out.k HZ3.out (fun e => by have := HGE.out; omega))
    have HKR := Lib.hid hkr
    by_cases hk : k < N
    · have d2 : decide ((k : Int) < (N : Int)) = true := decide_eq_true (by omega)
      have d3 : decide (k < N) = true := decide_eq_true hk
      have wi : IntKind.i64.wrap ((k : Int) + 1) = (k : Int) + 1 := by rw [wrap_in (by omega) (by omega)]
      have HNK := Lib.hid (HNX2.out k)
      have CK := Lib.hid (fun w2 hb => CS2.out w2 hb k hk)
      have HK := Lib.hid hk
      obtain ⟨bst, hbst⟩ : ∃ zz, zz = sc k := ⟨_, rfl⟩
      have hin1 := hin.out
      rw [← hbst] at HNK hin1
      have HIN := Lib.hid hin1
      obtain ⟨bt, bi, bu, bv⟩ := bst
      dsimp only at HNK
      clear hin hin1 hbst hkr hk
      cases hsh : shp k
      · rw [hsh] at CK HNK
        dsimp only at HNK
        unfold shapeR at CK
        dsimp only [hitV, htN, Option.getD_some, Option.getD_none, Option.isSome_some, Option.isSome_none] at CK
        have c0 := cell_row HR9.out 0 _ rfl
        have c1 := cell_row HR9.out 1 _ rfl
        have c2 := cell_row HR9.out 2 _ rfl
        have e0 := cell_row HY9.out 0 _ rfl
        have e1 := cell_row HY9.out 1 _ rfl
        have e2 := cell_row HY9.out 2 _ rfl
        have e3 := cell_row HY9.out 3 _ rfl
        have e4 := cell_row HY9.out 4 _ rfl
        have e5 := cell_row HY9.out 5 _ rfl
        go_wp2_with fail
        refine (CK.out _ HIN.out.hb).mono ?_
        rintro e x1 ⟨rfl, hb⟩
        have HI1 := Lib.hid (HIN.out.step hb)
        clear hb HIN CK c0 c1 c2 e0 e1 e2 e3 e4 e5
        have HI2 := Lib.hid (HI1.out.step (ext_alloc x1 (.cells #[.int .i64 0, .int .i64 (-1), .int .i64 0, .int .i64 0] 38)))
        go_wp2_with fail
        go_roundg (N - (k + 1))
        case measure => have := HKR.out; have := HK.out; omega
        case rel => exact ⟨k + 1, by have := HKR.out; have := HK.out; omega, by go_num, Lib.hid (by rw [HNK.out]; exact HI2.out)⟩
      · rename_i hh
        obtain ⟨ht, hi_, hu, hv⟩ := hh
        rw [hsh] at CK HNK
        dsimp only at HNK
        unfold shapeR at CK
        dsimp only [hitV, htN, Option.getD_some, Option.getD_none, Option.isSome_some, Option.isSome_none] at CK
        have c0 := cell_row HR9.out 0 _ rfl
        have c1 := cell_row HR9.out 1 _ rfl
        have c2 := cell_row HR9.out 2 _ rfl
        have e0 := cell_row HY9.out 0 _ rfl
        have e1 := cell_row HY9.out 1 _ rfl
        have e2 := cell_row HY9.out 2 _ rfl
        have e3 := cell_row HY9.out 3 _ rfl
        have e4 := cell_row HY9.out 4 _ rfl
        have e5 := cell_row HY9.out 5 _ rfl
        go_wp2_with fail
        refine (CK.out _ HIN.out.hb).mono ?_
        rintro e x1 ⟨rfl, hb⟩
        have HI1 := Lib.hid (HIN.out.step hb)
        clear hb HIN CK c0 c1 c2 e0 e1 e2 e3 e4 e5
        go_upto_region 6 with (fail)
        have HI2 := Lib.hid (HI1.out.step (ext_alloc x1 (.cells #[.int .i64 ht, .int .i64 hi_, .int .i64 hu, .int .i64 hv] 38)))
        have hn := heap_alloc_new x1 (.cells #[.int .i64 ht, .int .i64 hi_, .int .i64 hu, .int .i64 hv] 38)
        obtain ⟨x2, hx2⟩ : ∃ ww, ww = x1.alloc (.cells #[.int .i64 ht, .int .i64 hi_, .int .i64 hu, .int .i64 hv] 38) := ⟨_, rfl⟩
        rw [← hx2] at HI2 hn ⊢
        have HH := Lib.hid hn
        clear hx2 hn HI1
        generalize x1.heap.size = gH at HH ⊢
        by_cases h1 : bi < 0
        · have d4 : decide (bi < 0) = true := decide_eq_true h1
          have c0 := cell_row HH.out 0 _ rfl
          have c1 := cell_row HH.out 1 _ rfl
          have c2 := cell_row HH.out 2 _ rfl
          have c3 := cell_row HH.out 3 _ rfl
          have e0 := cell_row HI2.out.row 0 (.int .i64 bt) rfl
          have e1 := cell_row HI2.out.row 1 (.int .i64 bi) rfl
          go_wp2_with (with_reducible refine store_hit rfl (.tmp 7) (.tmp 38) rfl rfl gHBE ht hi_ hu hv rfl rfl _ HI2.out.row rfl ?_)
          go_roundg (N - (k + 1))
          case measure => have := HKR.out; have := HK.out; omega
          case rel => exact ⟨k + 1, by have := HKR.out; have := HK.out; omega, by go_num, Lib.hid (by rw [HNK.out, if_pos (.inl h1)]; exact HI2.out.put (h' := ⟨ht, hi_, hu, hv⟩) (by have := HGE.out; omega))⟩
        · have d4 : decide (bi < 0) = false := decide_eq_false h1
          by_cases h2 : ht < bt
          · have d5 : decide (ht < bt) = true := decide_eq_true h2
            have c0 := cell_row HH.out 0 _ rfl
            have c1 := cell_row HH.out 1 _ rfl
            have c2 := cell_row HH.out 2 _ rfl
            have c3 := cell_row HH.out 3 _ rfl
            have e0 := cell_row HI2.out.row 0 (.int .i64 bt) rfl
            have e1 := cell_row HI2.out.row 1 (.int .i64 bi) rfl
            go_wp2_with (with_reducible refine store_hit rfl (.tmp 7) (.tmp 38) rfl rfl gHBE ht hi_ hu hv rfl rfl _ HI2.out.row rfl ?_)
            go_roundg (N - (k + 1))
            case measure => have := HKR.out; have := HK.out; omega
            case rel => exact ⟨k + 1, by have := HKR.out; have := HK.out; omega, by go_num, Lib.hid (by rw [HNK.out, if_pos (.inr h2)]; exact HI2.out.put (h' := ⟨ht, hi_, hu, hv⟩) (by have := HGE.out; omega))⟩
          · have d5 : decide (ht < bt) = false := decide_eq_false h2
            have HNO : Hid (¬ (bi < 0 ∨ ht < bt)) := Lib.hid (by omega)
            have c0 := cell_row HH.out 0 _ rfl
            have c1 := cell_row HH.out 1 _ rfl
            have c2 := cell_row HH.out 2 _ rfl
            have c3 := cell_row HH.out 3 _ rfl
            have e0 := cell_row HI2.out.row 0 (.int .i64 bt) rfl
            have e1 := cell_row HI2.out.row 1 (.int .i64 bi) rfl
            go_wp2_with fail
            go_roundg (N - (k + 1))
            case measure => have := HKR.out; have := HK.out; omega
            case rel => exact ⟨k + 1, by have := HKR.out; have := HK.out; omega, by go_num, Lib.hid (by rw [HNK.out, if_neg HNO.out]; exact HI2.out)⟩
    · have d2 : decide ((k : Int) < (N : Int)) = false := decide_eq_false (by omega)
      have d3 : decide (k < N) = false := decide_eq_false hk
      obtain rfl : k = N := by omega
      have hin1 := hin.out
      rw [← HRS.out] at hin1
      have HIN := Lib.hid hin1
      clear hin hin1 hk hkr HRS
      obtain ⟨ht, hi_, hu, hv⟩ := res
      have c0 := cell_row HIN.out.row 0 _ rfl
      have c1 := cell_row HIN.out.row 1 _ rfl
      have c2 := cell_row HIN.out.row 2 _ rfl
      have c3 := cell_row HIN.out.row 3 _ rfl
      go_wp2_with (with_reducible refine store_hit rfl (.tmp 6) (.tmp 40) rfl rfl (w.heap.size + 1 + 1) ht hi_ hu hv rfl rfl _ HZ9.out rfl ?_)
      refine bodyPost_ret (results_cell_row rfl _ _ (w.heap.size + 1 + 1) 38 _ _ _ rfl (setRow_heap _ _ _ _ _ _ HZ9.out) Try.underlying38 rfl hit_size) rfl ?_
      exact ⟨rfl, below_setRow HIN.out.hb (by omega) _⟩

end Go.Proofs.Ytdaokkgenfpmhaa.HitV
