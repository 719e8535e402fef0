/- The walks of hit.none and hit.corners. -/
import Derived.Test.YtdaokkgenfpmhaaHitN
import Derived.Test.YtdaokkgenfpmhaaQu
set_option linter.unusedVariables false
set_option linter.unusedSimpArgs false
namespace Go.Proofs.Ytdaokkgenfpmhaa.HitC
open Go.RowKit Go.Sort FixM Base Num FixW Qb Qt Qa Qf Qg VecW VecV VecU LightQ LightC MeshM Rec MeshA MeshB MeshC MeshD MeshE MeshP HitM HitT HitX HitN
set_option maxRecDepth 100000 in
theorem none_any (w : World) : Calls Try.prog 31 #[] w (VTo (hitV htN) w) := by
  go_enter Try.func31, Try.ntmps31
  go_wp2_with (with_reducible refine store_hit rfl (.tmp 0) (.tmp 1) rfl rfl w.heap.size 0 (-1) 0 0 rfl rfl _ (heap_alloc_new _ _) rfl ?_)
  refine bodyPost_ret (results_cell_row rfl _ _ w.heap.size 38 _ _ _ rfl (setRow_heap _ _ _ _ _ _ (heap_alloc_new _ _)) Try.underlying38 rfl hit_size) rfl ?_
  exact ⟨rfl, put_ext _ _ _⟩
theorem results_rows3 {fn : Func} {p q r u : Tmp} {ty : TypeId} (h : fn.results = #[.cell p ty, .cell q ty, .cell r ty, .tmp u]) (tmps : Array Value) (P : Program) (w : World) (g1 g2 g3 : Nat) (t : TypeId) (c1 c2 c3 : Array Value) (fs : _)
    (hp : tmps.getD p undef = .pointer (some ⟨g1, 0, none⟩)) (hq : tmps.getD q undef = .pointer (some ⟨g2, 0, none⟩)) (hr : tmps.getD r undef = .pointer (some ⟨g3, 0, none⟩)) (h1 : w.heap[g1]? = some (.cells c1 t)) (h2 : w.heap[g2]? = some (.cells c2 t)) (h3 : w.heap[g3]? = some (.cells c3 t))
    (hu : P.underlying ty = some (.struct fs)) (i1 : (P.info? ty).map (·.size) = some c1.size) (i2 : (P.info? ty).map (·.size) = some c2.size) (i3 : (P.info? ty).map (·.size) = some c3.size) :
    (results fn tmps).run P w = .ok (.tuple #[.agg c1, .agg c2, .agg c3, tmps.getD u undef]) w := by
  have hp' : tmps[p]?.getD undef = .pointer (some ⟨g1, 0, none⟩) := by simpa using hp
  have hq' : tmps[q]?.getD undef = .pointer (some ⟨g2, 0, none⟩) := by simpa using hq
  have hr' : tmps[r]?.getD undef = .pointer (some ⟨g3, 0, none⟩) := by simpa using hr
  simp [results, h, hp', hq', hr', asAddr, run_loadVar_row w g1 t ty c1 _ _ h1 hu rfl i1, run_loadVar_row w g2 t ty c2 _ _ h2 hu rfl i2, run_loadVar_row w g3 t ty c3 _ _ h3 hu rfl i3]

theorem idx3_0 (a b c : Int) (w : World) : (Instr.index 68 (.agg #[.int .i64 a, .int .i64 b, .int .i64 c]) (.int .i64 0)).run Try.prog w = .ok (.int .i64 a) w := by kernel_rfl
theorem idx3_1 (a b c : Int) (w : World) : (Instr.index 68 (.agg #[.int .i64 a, .int .i64 b, .int .i64 c]) (.int .i64 1)).run Try.prog w = .ok (.int .i64 b) w := by kernel_rfl
theorem idx3_2 (a b c : Int) (w : World) : (Instr.index 68 (.agg #[.int .i64 a, .int .i64 b, .int .i64 c]) (.int .i64 2)).run Try.prog w = .ok (.int .i64 c) w := by kernel_rfl
theorem rows3 {w W : World} {B g1 g2 g3 : Nat} {T : TypeId} {z1 z2 z3 : Array Value} (h1 : W.heap[g1]? = some (.cells z1 T)) (h2 : W.heap[g2]? = some (.cells z2 T)) (h3 : W.heap[g3]? = some (.cells z3 T)) (n12 : g1 ≠ g2) (n13 : g1 ≠ g3) (n23 : g2 ≠ g3) (t1 t2 t3 : Array Value) (hb : Below B w W) (b1 : B ≤ g1) (b2 : B ≤ g2) (b3 : B ≤ g3) :
    (W.setRow g1 t1).heap[g2]? = some (.cells z2 T) ∧ ((W.setRow g1 t1).setRow g2 t2).heap[g3]? = some (.cells z3 T) ∧ (((W.setRow g1 t1).setRow g2 t2).setRow g3 t3).heap[g1]? = some (.cells t1 T) ∧ (((W.setRow g1 t1).setRow g2 t2).setRow g3 t3).heap[g2]? = some (.cells t2 T) ∧ (((W.setRow g1 t1).setRow g2 t2).setRow g3 t3).heap[g3]? = some (.cells t3 T) ∧ Below B w (((W.setRow g1 t1).setRow g2 t2).setRow g3 t3) := by
  have s2 := (setRow_other W g1 g2 t1 (Ne.symm n12)).trans h2
  have s3 := (setRow_other (W.setRow g1 t1) g2 g3 t2 (Ne.symm n23)).trans ((setRow_other W g1 g3 t1 (Ne.symm n13)).trans h3)
  exact ⟨s2, s3, (setRow_other _ g3 g1 t3 n13).trans ((setRow_other _ g2 g1 t2 n12).trans (setRow_heap _ _ _ _ _ _ h1)), (setRow_other _ g3 g2 t3 n23).trans (setRow_heap _ _ _ _ _ _ s2), setRow_heap _ _ _ _ _ _ s3, below_setRow (below_setRow (below_setRow hb b1 _) b2 _) b3 _⟩

set_option maxRecDepth 100000 in
set_option maxHeartbeats 8000000 in
theorem corners_neg (w : World) (a0 : Option Addr) (n0 c0 : Nat) (a1 : Option Addr) (n1 c1 : Nat) (a2 : Option Addr) (n2 c2 : Nat) (i : Int) (h : i < 0) : Calls Try.prog 36 #[mvals a0 n0 c0 a1 n1 c1 a2 n2 c2, .int .i64 i] w (VTo (cornersR none) w) := by
  have d0 : decide (i < 0) = true := decide_eq_true h
  clear h
  unfold mvals
  obtain ⟨hR, hA, hC, hD, hB0⟩ := al4 w (.cells #[.slice a0 n0 c0, .slice a1 n1 c1, .slice a2 n2 c2] 31) (.cells #[.int .i64 0, .int .i64 0, .int .i64 0] 23) (.cells #[.int .i64 0, .int .i64 0, .int .i64 0] 23) (.cells #[.int .i64 0, .int .i64 0, .int .i64 0] 23)
  obtain ⟨W, hW⟩ : ∃ W, W = (((w.alloc (.cells #[.slice a0 n0 c0, .slice a1 n1 c1, .slice a2 n2 c2] 31)).alloc (.cells #[.int .i64 0, .int .i64 0, .int .i64 0] 23)).alloc (.cells #[.int .i64 0, .int .i64 0, .int .i64 0] 23)).alloc (.cells #[.int .i64 0, .int .i64 0, .int .i64 0] 23) := ⟨_, rfl⟩
  rw [← hW] at hR hA hC hD hB0
  have HR0 := Lib.hid hR
  have HA0 := Lib.hid hA
  have HC0 := Lib.hid hC
  have HD0 := Lib.hid hD
  have HB0 := Lib.hid hB0
  have HWW := Lib.hid hW
  clear hR hA hC hD hB0 hW
  go_enter Try.func36, Try.ntmps36
  go_upto_region 1 with (fail)
  rw [← HWW.out]
  clear HWW
  obtain ⟨s2, s3, r1, r2, r3, hb⟩ := rows3 HA0.out HC0.out HD0.out (by omega) (by omega) (by omega) #[.int .i64 0, .int .i64 0, .int .i64 0] #[.int .i64 0, .int .i64 0, .int .i64 0] #[.int .i64 0, .int .i64 0, .int .i64 0] HB0.out (by omega) (by omega) (by omega)
  have HS2 := Lib.hid s2
  have HS3 := Lib.hid s3
  have R1 := Lib.hid r1
  have R2 := Lib.hid r2
  have R3 := Lib.hid r3
  have HBF := Lib.hid hb
  clear s2 s3 r1 r2 r3 hb
  go_wp2_with (first | (with_reducible refine store_vec rfl (.tmp 4) (.tmp 20) rfl rfl (w.heap.size + 1) 0 0 0 rfl rfl _ _ _ HA0.out ?_) | (with_reducible refine store_vec rfl (.tmp 5) (.tmp 21) rfl rfl (w.heap.size + 1 + 1) 0 0 0 rfl rfl _ _ _ HS2.out ?_) | (with_reducible refine store_vec rfl (.tmp 6) (.tmp 22) rfl rfl (w.heap.size + 1 + 1 + 1) 0 0 0 rfl rfl _ _ _ HS3.out ?_))
  refine bodyPost_ret (results_rows3 rfl _ _ _ (w.heap.size + 1) (w.heap.size + 1 + 1) (w.heap.size + 1 + 1 + 1) 23 _ _ _ _ rfl rfl rfl R1.out R2.out R3.out Try.underlying23 vec_size vec_size vec_size) rfl ?_
  exact ⟨rfl, HBF.out⟩

set_option maxRecDepth 100000 in
set_option maxHeartbeats 8000000 in
theorem corners_far (w : World) (a0 : Option Addr) (n0 c0 : Nat) (a1 : Option Addr) (n1 c1 : Nat) (a2 : Option Addr) (n2 c2 : Nat) (i : Int) (h0 : 0 ≤ i) (h : (n1 : Int) ≤ i) : Calls Try.prog 36 #[mvals a0 n0 c0 a1 n1 c1 a2 n2 c2, .int .i64 i] w (VTo (cornersR none) w) := by
  have d0 : decide (i < 0) = false := decide_eq_false (by omega)
  have d1 : decide ((n1 : Int) ≤ i) = true := decide_eq_true h
  clear h h0
  unfold mvals
  obtain ⟨hR, hA, hC, hD, hB0⟩ := al4 w (.cells #[.slice a0 n0 c0, .slice a1 n1 c1, .slice a2 n2 c2] 31) (.cells #[.int .i64 0, .int .i64 0, .int .i64 0] 23) (.cells #[.int .i64 0, .int .i64 0, .int .i64 0] 23) (.cells #[.int .i64 0, .int .i64 0, .int .i64 0] 23)
  obtain ⟨W, hW⟩ : ∃ W, W = (((w.alloc (.cells #[.slice a0 n0 c0, .slice a1 n1 c1, .slice a2 n2 c2] 31)).alloc (.cells #[.int .i64 0, .int .i64 0, .int .i64 0] 23)).alloc (.cells #[.int .i64 0, .int .i64 0, .int .i64 0] 23)).alloc (.cells #[.int .i64 0, .int .i64 0, .int .i64 0] 23) := ⟨_, rfl⟩
  rw [← hW] at hR hA hC hD hB0
  have HR0 := Lib.hid hR
  have HA0 := Lib.hid hA
  have HC0 := Lib.hid hC
  have HD0 := Lib.hid hD
  have HB0 := Lib.hid hB0
  have HWW := Lib.hid hW
  clear hR hA hC hD hB0 hW
  go_enter Try.func36, Try.ntmps36
  go_upto_region 1 with (fail)
  rw [← HWW.out]
  clear HWW
  have cHR0 := cell_row HR0.out 0 _ rfl
  have cHR1 := cell_row HR0.out 1 _ rfl
  have cHR2 := cell_row HR0.out 2 _ rfl
  obtain ⟨s2, s3, r1, r2, r3, hb⟩ := rows3 HA0.out HC0.out HD0.out (by omega) (by omega) (by omega) #[.int .i64 0, .int .i64 0, .int .i64 0] #[.int .i64 0, .int .i64 0, .int .i64 0] #[.int .i64 0, .int .i64 0, .int .i64 0] HB0.out (by omega) (by omega) (by omega)
  have HS2 := Lib.hid s2
  have HS3 := Lib.hid s3
  have R1 := Lib.hid r1
  have R2 := Lib.hid r2
  have R3 := Lib.hid r3
  have HBF := Lib.hid hb
  clear s2 s3 r1 r2 r3 hb
  go_wp2_with (first | (with_reducible refine store_vec rfl (.tmp 4) (.tmp 20) rfl rfl (w.heap.size + 1) 0 0 0 rfl rfl _ _ _ HA0.out ?_) | (with_reducible refine store_vec rfl (.tmp 5) (.tmp 21) rfl rfl (w.heap.size + 1 + 1) 0 0 0 rfl rfl _ _ _ HS2.out ?_) | (with_reducible refine store_vec rfl (.tmp 6) (.tmp 22) rfl rfl (w.heap.size + 1 + 1 + 1) 0 0 0 rfl rfl _ _ _ HS3.out ?_))
  refine bodyPost_ret (results_rows3 rfl _ _ _ (w.heap.size + 1) (w.heap.size + 1 + 1) (w.heap.size + 1 + 1 + 1) 23 _ _ _ _ rfl rfl rfl R1.out R2.out R3.out Try.underlying23 vec_size vec_size vec_size) rfl ?_
  exact ⟨rfl, HBF.out⟩

set_option maxRecDepth 100000 in
set_option maxHeartbeats 8000000 in
theorem corners_is (w : World) (a0 : Option Addr) (n0 c0 : Nat) (a1 : Option Addr) (n1 c1 : Nat) (a2 : Option Addr) (n2 c2 : Nat) (ts : List V3) (hts : Recs 3 enc3 w (.slice a1 n1 c1) ts) (j : Nat) (hj : j < ts.length) (x y z : Int) (ht : ts[j] = ⟨x, y, z⟩) (l0 : n0 ≤ 9223372036854775807) (ps : List V3) (hps : Recs 3 enc3 w (.slice a0 n0 c0) ps) : Calls Try.prog 36 #[mvals a0 n0 c0 a1 n1 c1 a2 n2 c2, .int .i64 (j : Int)] w (VTo (cornersR (if hasF n0 ⟨x, y, z⟩ then some (ps.getD x.toNat v0, ps.getD y.toNat v0, ps.getD z.toNat v0) else none)) w) := by
  have hjn : j < n1 := by rw [hts.fits]; exact hj
  have d0 : decide ((j : Int) < 0) = false := decide_eq_false (by omega)
  have d1 : decide ((n1 : Int) ≤ (j : Int)) = false := decide_eq_false (by omega)
  have d1b : decide (n1 ≤ j) = false := decide_eq_false (by omega)
  have HTS := Lib.hid hts
  have HJ := Lib.hid ht
  have HE : Hid (hasF n0 ⟨x, y, z⟩ = (placeI n0 x && placeI n0 y && placeI n0 z)) := Lib.hid rfl
  have HPS := Lib.hid hps
  obtain ⟨hf, hhf⟩ : ∃ zz, zz = hasF n0 ⟨x, y, z⟩ := ⟨_, rfl⟩
  rw [← hhf] at HE ⊢
  obtain ⟨res, hres⟩ : ∃ zz, zz = (if hf = true then some (ps.getD x.toNat v0, ps.getD y.toNat v0, ps.getD z.toNat v0) else none) := ⟨_, rfl⟩
  rw [← hres]
  have HRES := Lib.hid hres
  clear hhf hts ht hps hres
  unfold mvals
  obtain ⟨hR, hA, hC, hD, hB0⟩ := al4 w (.cells #[.slice a0 n0 c0, .slice a1 n1 c1, .slice a2 n2 c2] 31) (.cells #[.int .i64 0, .int .i64 0, .int .i64 0] 23) (.cells #[.int .i64 0, .int .i64 0, .int .i64 0] 23) (.cells #[.int .i64 0, .int .i64 0, .int .i64 0] 23)
  obtain ⟨W, hW⟩ : ∃ W, W = (((w.alloc (.cells #[.slice a0 n0 c0, .slice a1 n1 c1, .slice a2 n2 c2] 31)).alloc (.cells #[.int .i64 0, .int .i64 0, .int .i64 0] 23)).alloc (.cells #[.int .i64 0, .int .i64 0, .int .i64 0] 23)).alloc (.cells #[.int .i64 0, .int .i64 0, .int .i64 0] 23) := ⟨_, rfl⟩
  rw [← hW] at hR hA hC hD hB0
  have HR0 := Lib.hid hR
  have HA0 := Lib.hid hA
  have HC0 := Lib.hid hC
  have HD0 := Lib.hid hD
  have HB0 := Lib.hid hB0
  have HWW := Lib.hid hW
  clear hR hA hC hD hB0 hW
  go_enter Try.func36, Try.ntmps36
  go_upto_region 1 with (fail)
  rw [← HWW.out]
  clear HWW
  have k1 := cell_row HR0.out 1 (.slice a1 n1 c1) rfl
  obtain ⟨b, off, e, hbl, p0, p1, p2⟩ := at3 (HTS.out.below HB0.out (Nat.le_refl _)) j hj
  subst e
  rw [HJ.out] at p0 p1 p2
  clear HTS HJ hbl
  dsimp only at p0 p1 p2
  go_upto_region 4 with (fail)
  have hge : w.heap.size + 1 + 1 + 1 < W.heap.size := Base.lt_of_heap HD0.out
  have HGE := Lib.hid hge
  clear hge
  have hx := ext_alloc W (.cells #[.int .i64 x, .int .i64 y, .int .i64 z] 68)
  have hn := heap_alloc_new W (.cells #[.int .i64 x, .int .i64 y, .int .i64 z] 68)
  obtain ⟨y1, hW⟩ : ∃ ww, ww = W.alloc (.cells #[.int .i64 x, .int .i64 y, .int .i64 z] 68) := ⟨_, rfl⟩
  rw [← hW] at hx hn ⊢
  clear hW
  have HR1 := Lib.hid (vec_step HR0.out hx)
  have HA1 := Lib.hid (vec_step HA0.out hx)
  have HC1 := Lib.hid (vec_step HC0.out hx)
  have HD1 := Lib.hid (vec_step HD0.out hx)
  have HB1 := Lib.hid (HB0.out.trans (hx.mono HB0.out.size))
  clear HR0 HA0 HC0 HD0 HB0 hx  
  have HT1 := Lib.hid (hn)
  clear hn
  generalize W.heap.size = gHT at HT1 HGE ⊢
  have cHT0 := cell_row HT1.out 0 _ rfl
  have cHT1 := cell_row HT1.out 1 _ rfl
  have cHT2 := cell_row HT1.out 2 _ rfl
  go_wp2_with fail
  clear cHT0 cHT1 cHT2
  go_loopg [29] 3 (fun r n9 wr => ∃ k : Int, 0 ≤ k ∧ k + (r : Int) = 3 ∧ n9 = .int .i64 k ∧ Hid (Below y1.heap.size y1 wr ∧ (0 < k → placeI n0 x = true) ∧ (1 < k → placeI n0 y = true) ∧ (2 < k → placeI n0 z = true)))
  case atStart => exact ⟨0, by omega, by omega, rfl, Lib.hid ⟨Below.refl _ _, by omega, by omega, by omega⟩⟩
  case round =>
    obtain ⟨k, hk0, hkr, rfl, hin⟩ := hrel
    have hb := hin.out.1
    have HR2 := Lib.hid (vec_step HR1.out hb)
    have HA2 := Lib.hid (vec_step HA1.out hb)
    have HC2 := Lib.hid (vec_step HC1.out hb)
    have HD2 := Lib.hid (vec_step HD1.out hb)
    have HB2 := Lib.hid (HB1.out.trans (hb.mono HB1.out.size))
    have HT2 := Lib.hid (vec_step HT1.out hb)
    clear HR1 HA1 HC1 HD1 HB1 HT1 hb  
    have i0 := idx3_0
    have i1 := idx3_1
    have i2 := idx3_2
    rcases (show k = 0 ∨ k = 1 ∨ k = 2 ∨ k = 3 by omega) with rfl | rfl | rfl | rfl
    · by_cases h1 : x < 0
      · have d2 : decide (x < 0) = true := decide_eq_true h1
        have hh : hf = false := by rw [HE.out]; unfold placeI; rw [decide_eq_false (show ¬ 0 ≤ x by omega)]; simp
        subst hh
        have hres : res = none := HRES.out
        subst hres
        clear hin h1
        have cHR0 := cell_row HR2.out 0 _ rfl
        obtain ⟨s2, s3, r1, r2, r3, hb⟩ := rows3 HA2.out HC2.out HD2.out (by omega) (by omega) (by omega) #[.int .i64 0, .int .i64 0, .int .i64 0] #[.int .i64 0, .int .i64 0, .int .i64 0] #[.int .i64 0, .int .i64 0, .int .i64 0] HB2.out (by omega) (by omega) (by omega)
        have HS2 := Lib.hid s2
        have HS3 := Lib.hid s3
        have R1 := Lib.hid r1
        have R2 := Lib.hid r2
        have R3 := Lib.hid r3
        have HBF := Lib.hid hb
        clear s2 s3 r1 r2 r3 hb
        go_wp2_with (first | (with_reducible refine store_vec rfl (.tmp 4) (.tmp 41) rfl rfl (w.heap.size + 1) 0 0 0 rfl rfl _ _ _ HA2.out ?_) | (with_reducible refine store_vec rfl (.tmp 5) (.tmp 42) rfl rfl (w.heap.size + 1 + 1) 0 0 0 rfl rfl _ _ _ HS2.out ?_) | (with_reducible refine store_vec rfl (.tmp 6) (.tmp 43) rfl rfl (w.heap.size + 1 + 1 + 1) 0 0 0 rfl rfl _ _ _ HS3.out ?_))
        refine bodyPost_ret (results_rows3 rfl _ _ _ (w.heap.size + 1) (w.heap.size + 1 + 1) (w.heap.size + 1 + 1 + 1) 23 _ _ _ _ rfl rfl rfl R1.out R2.out R3.out Try.underlying23 vec_size vec_size vec_size) rfl ?_
        exact ⟨rfl, HBF.out⟩
      · have d2 : decide (x < 0) = false := decide_eq_false h1
        by_cases h2 : (n0 : Int) ≤ x
        · have d3 : decide ((n0 : Int) ≤ x) = true := decide_eq_true h2
          have hh : hf = false := by rw [HE.out]; unfold placeI; rw [decide_eq_false (show ¬ x < (n0 : Int) by omega)]; simp
          subst hh
          have hres : res = none := HRES.out
          subst hres
          clear hin h1 h2
          have cHR0 := cell_row HR2.out 0 _ rfl
          obtain ⟨s2, s3, r1, r2, r3, hb⟩ := rows3 HA2.out HC2.out HD2.out (by omega) (by omega) (by omega) #[.int .i64 0, .int .i64 0, .int .i64 0] #[.int .i64 0, .int .i64 0, .int .i64 0] #[.int .i64 0, .int .i64 0, .int .i64 0] HB2.out (by omega) (by omega) (by omega)
          have HS2 := Lib.hid s2
          have HS3 := Lib.hid s3
          have R1 := Lib.hid r1
          have R2 := Lib.hid r2
          have R3 := Lib.hid r3
          have HBF := Lib.hid hb
          clear s2 s3 r1 r2 r3 hb
          go_wp2_with (first | (with_reducible refine store_vec rfl (.tmp 4) (.tmp 41) rfl rfl (w.heap.size + 1) 0 0 0 rfl rfl _ _ _ HA2.out ?_) | (with_reducible refine store_vec rfl (.tmp 5) (.tmp 42) rfl rfl (w.heap.size + 1 + 1) 0 0 0 rfl rfl _ _ _ HS2.out ?_) | (with_reducible refine store_vec rfl (.tmp 6) (.tmp 43) rfl rfl (w.heap.size + 1 + 1 + 1) 0 0 0 rfl rfl _ _ _ HS3.out ?_))
          refine bodyPost_ret (results_rows3 rfl _ _ _ (w.heap.size + 1) (w.heap.size + 1 + 1) (w.heap.size + 1 + 1 + 1) 23 _ _ _ _ rfl rfl rfl R1.out R2.out R3.out Try.underlying23 vec_size vec_size vec_size) rfl ?_
          exact ⟨rfl, HBF.out⟩
        · have d3 : decide ((n0 : Int) ≤ x) = false := decide_eq_false h2
          have hp0 : placeI n0 x = true := by unfold placeI; rw [decide_eq_true (show 0 ≤ x by omega), decide_eq_true (show x < (n0 : Int) by omega)]; rfl
          have HPP := Lib.hid (And.intro hin.out.1 (And.intro hp0 True.intro))
          clear hin h1 h2 hp0
          have cHR0 := cell_row HR2.out 0 _ rfl
          go_wp2_with fail
          go_roundg 2
          case measure => omega
          case rel => exact ⟨1, by omega, by omega, rfl, Lib.hid ⟨HPP.out.1, fun _ => HPP.out.2.1, by omega, by omega⟩⟩
    · by_cases h1 : y < 0
      · have d2 : decide (y < 0) = true := decide_eq_true h1
        have hh : hf = false := by rw [HE.out]; unfold placeI; rw [decide_eq_false (show ¬ 0 ≤ y by omega)]; simp
        subst hh
        have hres : res = none := HRES.out
        subst hres
        clear hin h1
        have cHR0 := cell_row HR2.out 0 _ rfl
        obtain ⟨s2, s3, r1, r2, r3, hb⟩ := rows3 HA2.out HC2.out HD2.out (by omega) (by omega) (by omega) #[.int .i64 0, .int .i64 0, .int .i64 0] #[.int .i64 0, .int .i64 0, .int .i64 0] #[.int .i64 0, .int .i64 0, .int .i64 0] HB2.out (by omega) (by omega) (by omega)
        have HS2 := Lib.hid s2
        have HS3 := Lib.hid s3
        have R1 := Lib.hid r1
        have R2 := Lib.hid r2
        have R3 := Lib.hid r3
        have HBF := Lib.hid hb
        clear s2 s3 r1 r2 r3 hb
        go_wp2_with (first | (with_reducible refine store_vec rfl (.tmp 4) (.tmp 41) rfl rfl (w.heap.size + 1) 0 0 0 rfl rfl _ _ _ HA2.out ?_) | (with_reducible refine store_vec rfl (.tmp 5) (.tmp 42) rfl rfl (w.heap.size + 1 + 1) 0 0 0 rfl rfl _ _ _ HS2.out ?_) | (with_reducible refine store_vec rfl (.tmp 6) (.tmp 43) rfl rfl (w.heap.size + 1 + 1 + 1) 0 0 0 rfl rfl _ _ _ HS3.out ?_))
        refine bodyPost_ret (results_rows3 rfl _ _ _ (w.heap.size + 1) (w.heap.size + 1 + 1) (w.heap.size + 1 + 1 + 1) 23 _ _ _ _ rfl rfl rfl R1.out R2.out R3.out Try.underlying23 vec_size vec_size vec_size) rfl ?_
        exact ⟨rfl, HBF.out⟩
      · have d2 : decide (y < 0) = false := decide_eq_false h1
        by_cases h2 : (n0 : Int) ≤ y
        · have d3 : decide ((n0 : Int) ≤ y) = true := decide_eq_true h2
          have hh : hf = false := by rw [HE.out]; unfold placeI; rw [decide_eq_false (show ¬ y < (n0 : Int) by omega)]; simp
          subst hh
          have hres : res = none := HRES.out
          subst hres
          clear hin h1 h2
          have cHR0 := cell_row HR2.out 0 _ rfl
          obtain ⟨s2, s3, r1, r2, r3, hb⟩ := rows3 HA2.out HC2.out HD2.out (by omega) (by omega) (by omega) #[.int .i64 0, .int .i64 0, .int .i64 0] #[.int .i64 0, .int .i64 0, .int .i64 0] #[.int .i64 0, .int .i64 0, .int .i64 0] HB2.out (by omega) (by omega) (by omega)
          have HS2 := Lib.hid s2
          have HS3 := Lib.hid s3
          have R1 := Lib.hid r1
          have R2 := Lib.hid r2
          have R3 := Lib.hid r3
          have HBF := Lib.hid hb
          clear s2 s3 r1 r2 r3 hb
          go_wp2_with (first | (with_reducible refine store_vec rfl (.tmp 4) (.tmp 41) rfl rfl (w.heap.size + 1) 0 0 0 rfl rfl _ _ _ HA2.out ?_) | (with_reducible refine store_vec rfl (.tmp 5) (.tmp 42) rfl rfl (w.heap.size + 1 + 1) 0 0 0 rfl rfl _ _ _ HS2.out ?_) | (with_reducible refine store_vec rfl (.tmp 6) (.tmp 43) rfl rfl (w.heap.size + 1 + 1 + 1) 0 0 0 rfl rfl _ _ _ HS3.out ?_))
          refine bodyPost_ret (results_rows3 rfl _ _ _ (w.heap.size + 1) (w.heap.size + 1 + 1) (w.heap.size + 1 + 1 + 1) 23 _ _ _ _ rfl rfl rfl R1.out R2.out R3.out Try.underlying23 vec_size vec_size vec_size) rfl ?_
          exact ⟨rfl, HBF.out⟩
        · have d3 : decide ((n0 : Int) ≤ y) = false := decide_eq_false h2
          have hp1 : placeI n0 y = true := by unfold placeI; rw [decide_eq_true (show 0 ≤ y by omega), decide_eq_true (show y < (n0 : Int) by omega)]; rfl
          have hp0 : placeI n0 x = true := hin.out.2.1 (by omega)
          have HPP := Lib.hid (And.intro hin.out.1 (And.intro hp0 hp1))
          clear hin h1 h2 hp0 hp1
          have cHR0 := cell_row HR2.out 0 _ rfl
          go_wp2_with fail
          go_roundg 1
          case measure => omega
          case rel => exact ⟨2, by omega, by omega, rfl, Lib.hid ⟨HPP.out.1, fun _ => HPP.out.2.1, fun _ => HPP.out.2.2, by omega⟩⟩
    · by_cases h1 : z < 0
      · have d2 : decide (z < 0) = true := decide_eq_true h1
        have hh : hf = false := by rw [HE.out]; unfold placeI; rw [decide_eq_false (show ¬ 0 ≤ z by omega)]; simp
        subst hh
        have hres : res = none := HRES.out
        subst hres
        clear hin h1
        have cHR0 := cell_row HR2.out 0 _ rfl
        obtain ⟨s2, s3, r1, r2, r3, hb⟩ := rows3 HA2.out HC2.out HD2.out (by omega) (by omega) (by omega) #[.int .i64 0, .int .i64 0, .int .i64 0] #[.int .i64 0, .int .i64 0, .int .i64 0] #[.int .i64 0, .int .i64 0, .int .i64 0] HB2.out (by omega) (by omega) (by omega)
        have HS2 := Lib.hid s2
        have HS3 := Lib.hid s3
        have R1 := Lib.hid r1
        have R2 := Lib.hid r2
        have R3 := Lib.hid r3
        have HBF := Lib.hid hb
        clear s2 s3 r1 r2 r3 hb
        go_wp2_with (first | (with_reducible refine store_vec rfl (.tmp 4) (.tmp 41) rfl rfl (w.heap.size + 1) 0 0 0 rfl rfl _ _ _ HA2.out ?_) | (with_reducible refine store_vec rfl (.tmp 5) (.tmp 42) rfl rfl (w.heap.size + 1 + 1) 0 0 0 rfl rfl _ _ _ HS2.out ?_) | (with_reducible refine store_vec rfl (.tmp 6) (.tmp 43) rfl rfl (w.heap.size + 1 + 1 + 1) 0 0 0 rfl rfl _ _ _ HS3.out ?_))
        refine bodyPost_ret (results_rows3 rfl _ _ _ (w.heap.size + 1) (w.heap.size + 1 + 1) (w.heap.size + 1 + 1 + 1) 23 _ _ _ _ rfl rfl rfl R1.out R2.out R3.out Try.underlying23 vec_size vec_size vec_size) rfl ?_
        exact ⟨rfl, HBF.out⟩
      · have d2 : decide (z < 0) = false := decide_eq_false h1
        by_cases h2 : (n0 : Int) ≤ z
        · have d3 : decide ((n0 : Int) ≤ z) = true := decide_eq_true h2
          have hh : hf = false := by rw [HE.out]; unfold placeI; rw [decide_eq_false (show ¬ z < (n0 : Int) by omega)]; simp
          subst hh
          have hres : res = none := HRES.out
          subst hres
          clear hin h1 h2
          have cHR0 := cell_row HR2.out 0 _ rfl
          obtain ⟨s2, s3, r1, r2, r3, hb⟩ := rows3 HA2.out HC2.out HD2.out (by omega) (by omega) (by omega) #[.int .i64 0, .int .i64 0, .int .i64 0] #[.int .i64 0, .int .i64 0, .int .i64 0] #[.int .i64 0, .int .i64 0, .int .i64 0] HB2.out (by omega) (by omega) (by omega)
          have HS2 := Lib.hid s2
          have HS3 := Lib.hid s3
          have R1 := Lib.hid r1
          have R2 := Lib.hid r2
          have R3 := Lib.hid r3
          have HBF := Lib.hid hb
          clear s2 s3 r1 r2 r3 hb
          go_wp2_with (first | (with_reducible refine store_vec rfl (.tmp 4) (.tmp 41) rfl rfl (w.heap.size + 1) 0 0 0 rfl rfl _ _ _ HA2.out ?_) | (with_reducible refine store_vec rfl (.tmp 5) (.tmp 42) rfl rfl (w.heap.size + 1 + 1) 0 0 0 rfl rfl _ _ _ HS2.out ?_) | (with_reducible refine store_vec rfl (.tmp 6) (.tmp 43) rfl rfl (w.heap.size + 1 + 1 + 1) 0 0 0 rfl rfl _ _ _ HS3.out ?_))
          refine bodyPost_ret (results_rows3 rfl _ _ _ (w.heap.size + 1) (w.heap.size + 1 + 1) (w.heap.size + 1 + 1 + 1) 23 _ _ _ _ rfl rfl rfl R1.out R2.out R3.out Try.underlying23 vec_size vec_size vec_size) rfl ?_
          exact ⟨rfl, HBF.out⟩
        · have d3 : decide ((n0 : Int) ≤ z) = false := decide_eq_false h2
          have hp2 : placeI n0 z = true := by unfold placeI; rw [decide_eq_true (show 0 ≤ z by omega), decide_eq_true (show z < (n0 : Int) by omega)]; rfl
          have hp0 : placeI n0 x = true := hin.out.2.1 (by omega)
          have hp1 : placeI n0 y = true := hin.out.2.2.1 (by omega)
          have HPP := Lib.hid (And.intro hin.out.1 (And.intro hp0 (And.intro hp1 hp2)))
          clear hin h1 h2 hp0 hp1 hp2
          have cHR0 := cell_row HR2.out 0 _ rfl
          go_wp2_with fail
          go_roundg 0
          case measure => omega
          case rel => exact ⟨3, by omega, by omega, rfl, Lib.hid ⟨HPP.out.1, fun _ => HPP.out.2.1, fun _ => HPP.out.2.2.1, fun _ => HPP.out.2.2.2⟩⟩
    · have px := hin.out.2.1 (by omega)
      have py := hin.out.2.2.1 (by omega)
      have pz := hin.out.2.2.2 (by omega)
      have hh : hf = true := by rw [HE.out, px, py, pz]; rfl
      subst hh
      simp only [placeI, Bool.and_eq_true, decide_eq_true_eq] at px py pz
      obtain ⟨x, rfl⟩ := Int.eq_ofNat_of_zero_le px.1
      obtain ⟨y, rfl⟩ := Int.eq_ofNat_of_zero_le py.1
      obtain ⟨z, rfl⟩ := Int.eq_ofNat_of_zero_le pz.1
      have hn0 := HPS.out.fits
      have xn : x < n0 := by omega
      have yn : y < n0 := by omega
      have zn : z < n0 := by omega
      have xl : x < ps.length := by omega
      have yl : y < ps.length := by omega
      have zl : z < ps.length := by omega
      have hres : res = some (ps[x], ps[y], ps[z]) := by rw [HRES.out]; simp [xl, yl, zl]
      clear hin px py pz hk0 hkr
      obtain ⟨⟨paX, paY, paZ⟩, hpa⟩ : ∃ zz, zz = ps[x] := ⟨_, rfl⟩
      obtain ⟨⟨pbX, pbY, pbZ⟩, hpb⟩ : ∃ zz, zz = ps[y] := ⟨_, rfl⟩
      obtain ⟨⟨pcX, pcY, pcZ⟩, hpc⟩ : ∃ zz, zz = ps[z] := ⟨_, rfl⟩
      rw [← hpa, ← hpb, ← hpc] at hres
      subst hres
      obtain ⟨b0, o0, e, hbl0, -, -, -⟩ := at3 HPS.out x xl
      subst e
      have HBL := Lib.hid hbl0
      clear hbl0
      have HQ0 := Lib.hid (HPS.out.below HB2.out (Nat.le_refl _))
      obtain ⟨sts, hsts⟩ : ∃ zz : List Sw, zz = [⟨18, 4, w.heap.size + 1, 23, #[.int .i64 0, .int .i64 0, .int .i64 0], 50, #[.int .i64 paX, .int .i64 paY, .int .i64 paZ]⟩, ⟨19, 5, w.heap.size + 1 + 1, 23, #[.int .i64 0, .int .i64 0, .int .i64 0], 56, #[.int .i64 pbX, .int .i64 pbY, .int .i64 pbZ]⟩, ⟨20, 6, w.heap.size + 1 + 1 + 1, 23, #[.int .i64 0, .int .i64 0, .int .i64 0], 62, #[.int .i64 pcX, .int .i64 pcY, .int .i64 pcZ]⟩] := ⟨_, rfl⟩
      have HNS : Hid (∀ k, (k < w.heap.size + 1 ∨ w.heap.size + 1 + 1 + 1 < k) → ¬ Sof sts k) := Lib.hid (by
        rintro k hk ⟨x9, hx9, e⟩
        rw [hsts] at hx9
        simp only [List.mem_cons, List.not_mem_nil, or_false] at hx9
        rcases hx9 with rfl | rfl | rfl <;> (dsimp only at e; omega))
      have KR := Lib.hid (fun W9 (hk : Keeps (Sof sts) wr W9) => cell_all (keep_cell hk HR2.out (HNS.out _ (.inl (by omega)))) 0 _ rfl)
      have KT := Lib.hid (fun W9 (hk : Keeps (Sof sts) wr W9) => cells3 (keep_cell hk HT2.out (HNS.out _ (.inr HGE.out))))
      have Kpa : Hid (∀ W9, Keeps (Sof sts) wr W9 → (∀ d os, (grow (redrawn W9 d) os).cell? ⟨b0, o0 + x * 3, none⟩ = some (.int .i64 paX)) ∧ (∀ d os, (grow (redrawn W9 d) os).cell? ⟨b0, o0 + x * 3 + 1, none⟩ = some (.int .i64 paY)) ∧ (∀ d os, (grow (redrawn W9 d) os).cell? ⟨b0, o0 + x * 3 + 2, none⟩ = some (.int .i64 paZ))) := by
        refine Lib.hid (fun W9 hk => ?_)
        obtain ⟨b5, off5, e5, _, q0, q1, q2⟩ := at3 (HQ0.out.frame hk (fun b9 hb9 => HNS.out _ (.inl (by simp only [Value.ownBlock, Option.some.injEq] at hb9; have := HBL.out; omega)))) x xl
        simp only [Option.some.injEq, Addr.mk.injEq, and_true] at e5
        obtain ⟨rfl, rfl⟩ := e5
        rw [← hpa] at q0 q1 q2
        exact ⟨fun d os => cell_regrown q0 d os, fun d os => cell_regrown q1 d os, fun d os => cell_regrown q2 d os⟩
      have Kpb : Hid (∀ W9, Keeps (Sof sts) wr W9 → (∀ d os, (grow (redrawn W9 d) os).cell? ⟨b0, o0 + y * 3, none⟩ = some (.int .i64 pbX)) ∧ (∀ d os, (grow (redrawn W9 d) os).cell? ⟨b0, o0 + y * 3 + 1, none⟩ = some (.int .i64 pbY)) ∧ (∀ d os, (grow (redrawn W9 d) os).cell? ⟨b0, o0 + y * 3 + 2, none⟩ = some (.int .i64 pbZ))) := by
        refine Lib.hid (fun W9 hk => ?_)
        obtain ⟨b5, off5, e5, _, q0, q1, q2⟩ := at3 (HQ0.out.frame hk (fun b9 hb9 => HNS.out _ (.inl (by simp only [Value.ownBlock, Option.some.injEq] at hb9; have := HBL.out; omega)))) y yl
        simp only [Option.some.injEq, Addr.mk.injEq, and_true] at e5
        obtain ⟨rfl, rfl⟩ := e5
        rw [← hpb] at q0 q1 q2
        exact ⟨fun d os => cell_regrown q0 d os, fun d os => cell_regrown q1 d os, fun d os => cell_regrown q2 d os⟩
      have Kpc : Hid (∀ W9, Keeps (Sof sts) wr W9 → (∀ d os, (grow (redrawn W9 d) os).cell? ⟨b0, o0 + z * 3, none⟩ = some (.int .i64 pcX)) ∧ (∀ d os, (grow (redrawn W9 d) os).cell? ⟨b0, o0 + z * 3 + 1, none⟩ = some (.int .i64 pcY)) ∧ (∀ d os, (grow (redrawn W9 d) os).cell? ⟨b0, o0 + z * 3 + 2, none⟩ = some (.int .i64 pcZ))) := by
        refine Lib.hid (fun W9 hk => ?_)
        obtain ⟨b5, off5, e5, _, q0, q1, q2⟩ := at3 (HQ0.out.frame hk (fun b9 hb9 => HNS.out _ (.inl (by simp only [Value.ownBlock, Option.some.injEq] at hb9; have := HBL.out; omega)))) z zl
        simp only [Option.some.injEq, Addr.mk.injEq, and_true] at e5
        obtain ⟨rfl, rfl⟩ := e5
        rw [← hpc] at q0 q1 q2
        exact ⟨fun d os => cell_regrown q0 d os, fun d os => cell_regrown q1 d os, fun d os => cell_regrown q2 d os⟩
      have HST0 : ∀ x9 ∈ sts, wr.heap[x9.g]? = some (.cells x9.old x9.T) := by
        rw [hsts]
        intro x9 hx9
        simp only [List.mem_cons, List.not_mem_nil, or_false] at hx9
        rcases hx9 with rfl | rfl | rfl
        · exact HA2.out
        · exact HC2.out
        · exact HD2.out
      have HDI : ∀ x9 ∈ sts, ∀ y9 ∈ sts, x9.j ≠ y9.j → x9.g ≠ y9.g := by
        rw [hsts]
        intro x9 hx9 y9 hy9 hne
        simp only [List.mem_cons, List.not_mem_nil, or_false] at hx9 hy9
        rcases hx9 with rfl | rfl | rfl <;> rcases hy9 with rfl | rfl | rfl <;> first | exact absurd rfl hne | (dsimp only; omega)
      clear hpa hpb hpc
      go_upto_region 10 with (fail)
      refine wp_region_stores 63 [0, 1, 2, 3, 4, 5, 6, 7, 8, 9, 10, 11, 12, 13, 14, 15, 16, 17, 21] sts (by kernel_rfl) rfl (by rw [hsts]; kernel_rfl) (by
        rw [hsts]
        intro x9 hx9
        simp only [List.mem_cons, List.not_mem_nil, or_false] at hx9
        rcases hx9 with rfl | rfl | rfl
        · exact ⟨_, rfl, ⟨⟨_, rfl, vec_size⟩, rfl, rfl, row_one _ _ _⟩⟩
        · exact ⟨_, rfl, ⟨⟨_, rfl, vec_size⟩, rfl, rfl, row_one _ _ _⟩⟩
        · exact ⟨_, rfl, ⟨⟨_, rfl, vec_size⟩, rfl, rfl, row_one _ _ _⟩⟩) (by
        rw [hsts]
        intro x9 hx9
        simp only [List.mem_cons, List.not_mem_nil, or_false] at hx9
        rcases hx9 with rfl | rfl | rfl <;> rfl) HDI HST0 ?_
      clear HST0 HDI
      refine WalkK.step (A := ?A0) (o := ?o0) ?e0 45 ?d0 (by simp) ?h0 ?n0
      case e0 => simp only [List.getElem?_toArray, List.getElem?_cons_succ, List.getElem?_cons_zero]; exact rfl
      case d0 => exact rfl
      case h0 =>
        intro W9 hW9
        go_big_quiet_op
        exact rfl
      refine WalkK.step (A := ?A1) (o := ?o1) ?e1 46 ?d1 (by simp) ?h1 ?n1
      case e1 => simp only [List.getElem?_toArray, List.getElem?_cons_succ, List.getElem?_cons_zero]; exact rfl
      case d1 => exact rfl
      case h1 =>
        intro W9 hW9
        have z0 := KR.out W9 hW9
        go_big_quiet_op
        exact rfl
      refine WalkK.step (A := ?A2) (o := ?o2) ?e2 47 ?d2 (by simp) ?h2 ?n2
      case e2 => simp only [List.getElem?_toArray, List.getElem?_cons_succ, List.getElem?_cons_zero]; exact rfl
      case d2 => exact rfl
      case h2 =>
        intro W9 hW9
        go_big_quiet_op
        exact rfl
      refine WalkK.step (A := ?A3) (o := ?o3) ?e3 48 ?d3 (by simp) ?h3 ?n3
      case e3 => simp only [List.getElem?_toArray, List.getElem?_cons_succ, List.getElem?_cons_zero]; exact rfl
      case d3 => exact rfl
      case h3 =>
        intro W9 hW9
        obtain ⟨z0, z1, z2⟩ := KT.out W9 hW9
        go_big_quiet_op
        exact rfl
      refine WalkK.step (A := ?A4) (o := ?o4) ?e4 49 ?d4 (by simp) ?h4 ?n4
      case e4 => simp only [List.getElem?_toArray, List.getElem?_cons_succ, List.getElem?_cons_zero]; exact rfl
      case d4 => exact rfl
      case h4 =>
        intro W9 hW9
        have z9 := xn
        go_big_quiet_op
        exact rfl
      refine WalkK.step (A := ?A5) (o := ?o5) ?e5 50 ?d5 (by simp) ?h5 ?n5
      case e5 => simp only [List.getElem?_toArray, List.getElem?_cons_succ, List.getElem?_cons_zero]; exact rfl
      case d5 => exact rfl
      case h5 =>
        intro W9 hW9
        obtain ⟨z0, z1, z2⟩ := Kpa.out W9 hW9
        go_big_quiet_op
        exact rfl
      refine WalkK.step (A := ?A6) (o := ?o6) ?e6 51 ?d6 (by simp) ?h6 ?n6
      case e6 => simp only [List.getElem?_toArray, List.getElem?_cons_succ, List.getElem?_cons_zero]; exact rfl
      case d6 => exact rfl
      case h6 =>
        intro W9 hW9
        go_big_quiet_op
        exact rfl
      refine WalkK.step (A := ?A7) (o := ?o7) ?e7 52 ?d7 (by simp) ?h7 ?n7
      case e7 => simp only [List.getElem?_toArray, List.getElem?_cons_succ, List.getElem?_cons_zero]; exact rfl
      case d7 => exact rfl
      case h7 =>
        intro W9 hW9
        have z0 := KR.out W9 hW9
        go_big_quiet_op
        exact rfl
      refine WalkK.step (A := ?A8) (o := ?o8) ?e8 53 ?d8 (by simp) ?h8 ?n8
      case e8 => simp only [List.getElem?_toArray, List.getElem?_cons_succ, List.getElem?_cons_zero]; exact rfl
      case d8 => exact rfl
      case h8 =>
        intro W9 hW9
        go_big_quiet_op
        exact rfl
      refine WalkK.step (A := ?A9) (o := ?o9) ?e9 54 ?d9 (by simp) ?h9 ?n9
      case e9 => simp only [List.getElem?_toArray, List.getElem?_cons_succ, List.getElem?_cons_zero]; exact rfl
      case d9 => exact rfl
      case h9 =>
        intro W9 hW9
        obtain ⟨z0, z1, z2⟩ := KT.out W9 hW9
        go_big_quiet_op
        exact rfl
      refine WalkK.step (A := ?A10) (o := ?o10) ?e10 55 ?d10 (by simp) ?h10 ?n10
      case e10 => simp only [List.getElem?_toArray, List.getElem?_cons_succ, List.getElem?_cons_zero]; exact rfl
      case d10 => exact rfl
      case h10 =>
        intro W9 hW9
        have z9 := yn
        go_big_quiet_op
        exact rfl
      refine WalkK.step (A := ?A11) (o := ?o11) ?e11 56 ?d11 (by simp) ?h11 ?n11
      case e11 => simp only [List.getElem?_toArray, List.getElem?_cons_succ, List.getElem?_cons_zero]; exact rfl
      case d11 => exact rfl
      case h11 =>
        intro W9 hW9
        obtain ⟨z0, z1, z2⟩ := Kpb.out W9 hW9
        go_big_quiet_op
        exact rfl
      refine WalkK.step (A := ?A12) (o := ?o12) ?e12 57 ?d12 (by simp) ?h12 ?n12
      case e12 => simp only [List.getElem?_toArray, List.getElem?_cons_succ, List.getElem?_cons_zero]; exact rfl
      case d12 => exact rfl
      case h12 =>
        intro W9 hW9
        go_big_quiet_op
        exact rfl
      refine WalkK.step (A := ?A13) (o := ?o13) ?e13 58 ?d13 (by simp) ?h13 ?n13
      case e13 => simp only [List.getElem?_toArray, List.getElem?_cons_succ, List.getElem?_cons_zero]; exact rfl
      case d13 => exact rfl
      case h13 =>
        intro W9 hW9
        have z0 := KR.out W9 hW9
        go_big_quiet_op
        exact rfl
      refine WalkK.step (A := ?A14) (o := ?o14) ?e14 59 ?d14 (by simp) ?h14 ?n14
      case e14 => simp only [List.getElem?_toArray, List.getElem?_cons_succ, List.getElem?_cons_zero]; exact rfl
      case d14 => exact rfl
      case h14 =>
        intro W9 hW9
        go_big_quiet_op
        exact rfl
      refine WalkK.step (A := ?A15) (o := ?o15) ?e15 60 ?d15 (by simp) ?h15 ?n15
      case e15 => simp only [List.getElem?_toArray, List.getElem?_cons_succ, List.getElem?_cons_zero]; exact rfl
      case d15 => exact rfl
      case h15 =>
        intro W9 hW9
        obtain ⟨z0, z1, z2⟩ := KT.out W9 hW9
        go_big_quiet_op
        exact rfl
      refine WalkK.step (A := ?A16) (o := ?o16) ?e16 61 ?d16 (by simp) ?h16 ?n16
      case e16 => simp only [List.getElem?_toArray, List.getElem?_cons_succ, List.getElem?_cons_zero]; exact rfl
      case d16 => exact rfl
      case h16 =>
        intro W9 hW9
        have z9 := zn
        go_big_quiet_op
        exact rfl
      refine WalkK.step (A := ?A17) (o := ?o17) ?e17 62 ?d17 (by simp) ?h17 ?n17
      case e17 => simp only [List.getElem?_toArray, List.getElem?_cons_succ, List.getElem?_cons_zero]; exact rfl
      case d17 => exact rfl
      case h17 =>
        intro W9 hW9
        obtain ⟨z0, z1, z2⟩ := Kpc.out W9 hW9
        go_big_quiet_op
        exact rfl
      refine WalkK.step (A := ?A18) (o := ?o18) ?e18 7 ?d18 (by simp) ?h18 ?n18
      case e18 => simp only [List.getElem?_toArray, List.getElem?_cons_succ, List.getElem?_cons_zero]; exact rfl
      case d18 => exact rfl
      case h18 =>
        intro W9 hW9
        go_big_quiet_op
        exact rfl
      refine ⟨?_, ?_⟩
      · rw [hsts]
        intro x9 hx9
        simp only [List.mem_cons, List.not_mem_nil, or_false] at hx9
        rcases hx9 with rfl | rfl | rfl <;> rfl
      rw [hsts]
      intro wz hkz hz
      have r1 := hz _ (List.mem_cons_self ..)
      have r2 := hz _ (List.mem_cons_of_mem _ (List.mem_cons_self ..))
      have r3 := hz _ (List.mem_cons_of_mem _ (List.mem_cons_of_mem _ (List.mem_cons_self ..)))
      dsimp only at r1 r2 r3
      have hbz : Below w.heap.size wr wz := hkz.below w.heap.size HB2.out.size (by
        rintro k ⟨x9, hx9, rfl⟩
        simp only [List.mem_cons, List.not_mem_nil, or_false] at hx9
        rcases hx9 with rfl | rfl | rfl <;> (dsimp only; omega))
      have R1 := Lib.hid r1
      have R2 := Lib.hid r2
      have R3 := Lib.hid r3
      have HBF := Lib.hid (HB2.out.trans hbz)
      clear r1 r2 r3 hz hkz hbz
      go_wp2_with fail
      refine bodyPost_ret (results_rows3 rfl _ _ _ (w.heap.size + 1) (w.heap.size + 1 + 1) (w.heap.size + 1 + 1 + 1) 23 _ _ _ _ rfl rfl rfl R1.out R2.out R3.out Try.underlying23 vec_size vec_size vec_size) rfl ?_
      exact ⟨rfl, HBF.out⟩

theorem corners_any (v : Value) (m : Msh) (w : World) (hm : IsMesh w v m) (i : Int) : Calls Try.prog 36 #[v, .int .i64 i] w (VTo (cornersR (cornersF m i)) w) := by
  obtain ⟨a0, c0, a1, c1, a2, c2, rfl, h0, h1, h2, l0, l1, l2⟩ := hm.open_
  unfold cornersF
  by_cases hi0 : i < 0
  · rw [if_pos (.inl hi0)]
    exact corners_neg w _ _ _ _ _ _ _ _ _ i hi0
  by_cases hi1 : (m.ts.length : Int) ≤ i
  · rw [if_pos (.inr hi1)]
    exact corners_far w _ _ _ _ _ _ _ _ _ i (by omega) hi1
  rw [if_neg (by omega)]
  obtain ⟨j, rfl⟩ := Int.eq_ofNat_of_zero_le (by omega : 0 ≤ i)
  have hj : j < m.ts.length := by omega
  have e1 : m.ts.getD (j : Int).toNat v0 = m.ts[j] := by simp [hj]
  rw [e1]
  obtain ⟨⟨x, y, z⟩, ht⟩ : ∃ t, t = m.ts[j] := ⟨_, rfl⟩
  rw [← ht]
  exact corners_is w _ _ _ _ _ _ _ _ _ m.ts h1 j hj x y z ht.symm l0 m.ps h0

end Go.Proofs.Ytdaokkgenfpmhaa.HitC
