/- The walk of BvhScan. -/
import Derived.Test.YtdaokkgenfpmhaaBvhI
import Derived.Test.YtdaokkgenfpmhaaOpenRays
set_option linter.unusedVariables false
set_option linter.unusedSimpArgs false
namespace Go.Proofs.Ytdaokkgenfpmhaa.BvhL
open Go Go.RowKit Go.Sort Go.Lib FixM Base Num FixW Qb Qt Qa Qf Qg VecW VecV VecU LightQ LightC MeshM Rec MeshA MeshC MeshD MeshP HitM HitT HitX HitN HitS HitV BvhM BvhA BvhB BvhS BvhC BvhD BvhU BvhW BvhX BvhE BvhF BvhG BvhH BvhJ BvhI OpenRays
theorem check_is (m : Msh) (h : checkF m ≠ 0) : checkF m = 14 := by
  unfold checkF at *
  by_cases h1 : tooF m
  · rw [if_pos h1]
  · rw [if_neg h1] at h ⊢
    by_cases h2 : rightF m = true
    · rw [if_pos h2] at h; exact absurd rfl h
    · rw [if_neg h2]
/-- what the law asks of a tree's size -/
theorem sizes (m : Msh) (hl : cntM m ≤ 400) : ((flatM m).length : Int) ≤ maxI (2 * (cntM m : Int) - 1) 0 ∧ deepM m ≤ 13 ∧ cntM m ≤ stepsM m ∧ stepsM m ≤ 13 * cntM m ∧ (flatM m).length ≤ 1000 := by
  unfold flatM deepM stepsM maxI
  by_cases hc : cntM m = 0
  · rw [if_pos hc, if_pos hc, if_pos hc, hc]; simp
  · rw [if_neg hc, if_neg hc, if_neg hc]
    have hg := whole_good m hc
    have e : (wholeT m).l.length = cntM m := by rw [whole_l]; unfold allL; rw [List.length_range]; rfl
    have h1 := nodes_le _ hg
    have h2 := steps_le _ hg
    have h3 := whole_deep m (by omega)
    rw [e] at h1 h2
    have h4 : deepT (wholeT m) * cntM m ≤ 12 * cntM m := Nat.mul_le_mul_right _ h3
    rw [flat_length]
    refine ⟨by split <;> omega, by omega, h2.1, by omega, by omega⟩
theorem cost_le (m : Msh) (r : Ry) (least : Int) : (nearestF m r least).2 ≤ (flatM m).length + cntM m := by
  by_cases hc : cntM m = 0
  · rw [ans_none m r least hc]; exact Nat.zero_le _
  · have := nearest_cost m r least hc
    unfold flatM
    rw [if_neg hc, flat_length]
    exact this
theorem ray_at {w : World} {a : Option Addr} {n cap : Nat} {l : List Ry} (h : Recs 6 encR w (.slice a n cap) l) (i : Nat) (hi : i < l.length) : ∃ b off, a = some ⟨b, off, none⟩ ∧ b < w.heap.size ∧
    w.cell? ⟨b, off + i * 6, none⟩ = some (.int .i64 l[i].o.x) ∧ w.cell? ⟨b, off + i * 6 + 1, none⟩ = some (.int .i64 l[i].o.y) ∧ w.cell? ⟨b, off + i * 6 + 2, none⟩ = some (.int .i64 l[i].o.z) ∧ w.cell? ⟨b, off + i * 6 + 3, none⟩ = some (.int .i64 l[i].d.x) ∧ w.cell? ⟨b, off + i * 6 + 4, none⟩ = some (.int .i64 l[i].d.y) ∧ w.cell? ⟨b, off + i * 6 + 5, none⟩ = some (.int .i64 l[i].d.z) := by
  obtain ⟨b, off, cp, e, hb, hc⟩ := h.cells (by intro e; subst e; simp at hi)
  simp only [Value.slice.injEq] at e
  exact ⟨b, off, e.1, hb, hc i hi 0 _ rfl, hc i hi 1 _ rfl, hc i hi 2 _ rfl, hc i hi 3 _ rfl, hc i hi 4 _ rfl, hc i hi 5 _ rfl⟩
theorem EQH (t i u v : Int) : ∀ w, (Op.equalIn 10000 38 (.agg #[.int .i64 t, .int .i64 i, .int .i64 u, .int .i64 v]) (.agg #[.int .i64 t, .int .i64 i, .int .i64 u, .int .i64 v])).run Try.prog w = .ok true w := fun w => by rw [HitEq.eq_hit]; simp
set_option maxRecDepth 100000 in
set_option maxHeartbeats 16000000 in
theorem bvhScan_any (v vr : Value) (m : Msh) (rs : List Ry) (w : World) (hm : IsMesh w v m) (ok : m.ok) (hrs : Recs 6 encR w vr rs) (hro : ∀ r ∈ rs, r.ok) (least : Int) : Calls Try.prog 4 #[v, vr, .int .i64 least] w (AwTo w) := by
  obtain ⟨a0, c0, a1, c1, a2, c2, rfl, -⟩ := hm.open_
  obtain ⟨ar, cr, rfl, hrl, -⟩ := hrs.open_
  have HM := Lib.hid hm
  have HRS := Lib.hid hrs
  have HRO := Lib.hid hro
  have HOK := Lib.hid ok
  have HRL := Lib.hid hrl
  obtain ⟨n0, hn0⟩ : ∃ x, x = m.ps.length := ⟨_, rfl⟩
  obtain ⟨n1, hn1⟩ : ∃ x, x = m.ts.length := ⟨_, rfl⟩
  obtain ⟨n2, hn2⟩ : ∃ x, x = m.bs.length := ⟨_, rfl⟩
  obtain ⟨RL, hRL⟩ : ∃ x, x = rs.length := ⟨_, rfl⟩
  rw [← hn0, ← hn1, ← hn2] at HM ⊢
  rw [← hRL] at HRS HRL ⊢
  have HNL := Lib.hid (And.intro hn0 (And.intro hn1 (And.intro hn2 hRL)))
  have CSM := Lib.hid (fun w2 (hb : Below w.heap.size w w2) => smallMesh_any _ m w2 (HM.out.below hb) 200)
  rw [← hn0, ← hn1, ← hn2] at CSM
  clear hm ok hrs hro hrl hn0 hn1 hn2 hRL
  have hA := heap_alloc_new w (.cells #[.slice a0 n0 c0, .slice a1 n1 c1, .slice a2 n2 c2] 31)
  have hB := ext_alloc w (.cells #[.slice a0 n0 c0, .slice a1 n1 c1, .slice a2 n2 c2] 31)
  obtain ⟨W, hW⟩ : ∃ ww, ww = w.alloc (.cells #[.slice a0 n0 c0, .slice a1 n1 c1, .slice a2 n2 c2] 31) := ⟨_, rfl⟩
  rw [← hW] at hA hB
  have HP := Lib.hid hA
  have HB := Lib.hid hB
  have HWW := Lib.hid hW
  have HAW := Lib.hid (fun w2 => awake_any w2)
  obtain ⟨sm, hsm⟩ : ∃ b, b = (decide ((n0 : Int) ≤ 200) && decide ((n1 : Int) ≤ 200) && decide ((n2 : Int) ≤ 200)) := ⟨_, rfl⟩
  rw [← hsm] at CSM
  have HSM := Lib.hid hsm
  clear hA hB hW hsm
  go_enter Try.func4, Try.ntmps4
  go_upto_region 1 with (fail)
  rw [← HWW.out]
  clear HWW
  have p0 := cell_row HP.out 0 _ rfl
  have p1 := cell_row HP.out 1 _ rfl
  have p2 := cell_row HP.out 2 _ rfl
  go_wp2_with fail
  refine (CSM.out _ HB.out).mono ?_
  rintro e w1 ⟨rfl, hb⟩
  have HP1 := Lib.hid (vec_step HP.out hb)
  have HB1 := Lib.hid (HB.out.trans (hb.mono HB.out.size))
  clear hb p0 p1 p2 CSM HP HB
  clear W
  cases sm with
  | false =>
    go_wp2_with fail
    refine (HAW.out _).mono ?_
    rintro e w2 ⟨rfl, hb⟩
    have HF := Lib.hid (HB1.out.trans (hb.mono HB1.out.size))
    go_wp2_with fail
    go_ret
    exact ⟨rfl, HF.out⟩
  | true =>
    have HN4 := Lib.hid (show n0 ≤ 200 ∧ n1 ≤ 200 ∧ n2 ≤ 200 by have h := HSM.out; simp only [Bool.true_eq, Bool.and_eq_true, decide_eq_true_eq] at h; omega)
    have HM1 := Lib.hid (HM.out.below HB1.out)
    have p0 := cell_row HP1.out 0 _ rfl
    have p1 := cell_row HP1.out 1 _ rfl
    have p2 := cell_row HP1.out 2 _ rfl
    by_cases hc : checkF m = 0
    · have HC := Lib.hid hc
      have HCN := Lib.hid (show cntM m ≤ 400 by have h1 := HN4.out; have h2 := HNL.out; unfold cntM; omega)
      have HSZ := Lib.hid (sizes m HCN.out)
      have CB := Lib.hid (build_made HM1.out HOK.out HC.out 1048576 (by have h1 := HSZ.out; have h2 := HCN.out; omega))
      have HCO := Lib.hid (fun r => cost_le m r least)
      obtain ⟨nn, hnn⟩ : ∃ x, x = (flatM m).length := ⟨_, rfl⟩
      obtain ⟨dm, hdm⟩ : ∃ x, x = deepM m := ⟨_, rfl⟩
      obtain ⟨st, hst⟩ : ∃ x, x = stepsM m := ⟨_, rfl⟩
      obtain ⟨cn, hcn⟩ : ∃ x, x = cntM m := ⟨_, rfl⟩
      have HEQ := Lib.hid (And.intro hnn (And.intro hdm (And.intro hst hcn)))
      rw [← hst] at CB
      rw [← hnn, ← hdm, ← hst, ← hcn] at HSZ
      rw [← hcn] at HCN
      rw [← hnn, ← hcn] at HCO
      clear hc hnn hdm hst hcn
      go_wp2_with fail
      refine CB.out.mono ?_
      rintro e w2 ⟨g, rfl, ht, hb⟩
      have HT2 := Lib.hid ht
      have HP2 := Lib.hid (vec_step HP1.out hb)
      have HB2 := Lib.hid (HB1.out.trans (hb.mono HB1.out.size))
      clear ht hb p0 p1 p2 CB HP1 HB1 HM1
      clear w1
      have HM2 := Lib.hid (HM.out.below HB2.out)
      have p0 := cell_row HP2.out 0 _ rfl
      have p1 := cell_row HP2.out 1 _ rfl
      have p2 := cell_row HP2.out 2 _ rfl
      have CC := Lib.hid (count_any _ m w2 HM2.out (by have h1 := HCN.out; have h2 := HEQ.out.2.2.2; unfold cntM at h2; omega))
      have hcc : m.ts.length + m.bs.length = cn := HEQ.out.2.2.2.symm
      rw [hcc] at CC
      clear hcc
      go_wp2_with fail
      refine CC.out.mono ?_
      rintro e w3 ⟨rfl, hb⟩
      have HT3 := Lib.hid (HT2.out.below hb)
      have HP3 := Lib.hid (vec_step HP2.out hb)
      have HB3 := Lib.hid (HB2.out.trans (hb.mono HB2.out.size))
      clear hb p0 p1 p2 CC HP2 HB2 HM2 HT2
      clear w2
      have CN := Lib.hid (fun w2 (h : TreeAt w2 g m) => (show Calls Try.prog 6 #[.pointer (some ⟨g, 0, none⟩)] w2 (fun e w' => e = .returned (.int .i64 (nn : Int)) ∧ w2 = w') by rw [HEQ.out.1]; exact tree_nodes h))
      have CD := Lib.hid (fun w2 (h : TreeAt w2 g m) => (show Calls Try.prog 7 #[.pointer (some ⟨g, 0, none⟩)] w2 (fun e w' => e = .returned (.int .i64 (dm : Int)) ∧ w2 = w') by rw [HEQ.out.2.1]; exact tree_deep h))
      obtain ⟨C2, hC2⟩ : ∃ x, x = 2 * cn := ⟨_, rfl⟩
      have i1 : IntKind.i64.wrap (2 * (cn : Int)) = (C2 : Int) := by have h := HCN.out; rw [wrap_in (by omega) (by omega)]; omega
      obtain ⟨X, hX⟩ : ∃ x : Int, x = 2 * (cn : Int) - 1 := ⟨_, rfl⟩
      have i2 : IntKind.i64.wrap ((C2 : Int) - 1) = X := by have h := HCN.out; rw [wrap_in (by omega) (by omega)]; omega
      obtain ⟨mx, hmx⟩ : ∃ x : Int, x = maxI X 0 := ⟨_, rfl⟩
      have MX := max2_at hmx
      obtain ⟨C13, hC13⟩ : ∃ x, x = 13 * cn := ⟨_, rfl⟩
      have i3 : IntKind.i64.wrap (13 * (cn : Int)) = (C13 : Int) := by have h := HCN.out; rw [wrap_in (by omega) (by omega)]; omega
      have d1 : decide (mx < (nn : Int)) = false := decide_eq_false (by have h := HSZ.out.1; rw [← hX, ← hmx] at h; omega)
      have d2 : decide ((13 : Int) < (dm : Int)) = false := decide_eq_false (by have h := HSZ.out.2.1; omega)
      have d2b : decide (13 < dm) = false := decide_eq_false (by have h := HSZ.out.2.1; omega)
      have d3 : decide ((st : Int) < (cn : Int)) = false := decide_eq_false (by have h := HSZ.out.2.2.1; omega)
      have d3b : decide (st < cn) = false := decide_eq_false (by have h := HSZ.out.2.2.1; omega)
      have d4 : decide ((C13 : Int) < (st : Int)) = false := decide_eq_false (by have h := HSZ.out.2.2.2.1; omega)
      have d4b : decide (C13 < st) = false := decide_eq_false (by have h := HSZ.out.2.2.2.1; omega)
      clear hC2 hX hmx hC13
      go_wp2_with fail
      refine (CN.out _ HT3.out).mono ?_
      rintro e _ ⟨rfl, rfl⟩
      go_wp2_with fail
      refine (CD.out _ HT3.out).mono ?_
      rintro e _ ⟨rfl, rfl⟩
      go_upto_region 9 with (fail)
      clear d1 d2 d2b d3 d3b d4 d4b i1 i2 i3 MX
      obtain ⟨NA, hNA⟩ : ∃ x, x = nn + cn := ⟨_, rfl⟩
      have i4 : IntKind.i64.wrap ((nn : Int) + (cn : Int)) = (NA : Int) := by have h := HCN.out; have h2 := HSZ.out.2.2.2.2; rw [wrap_in (by omega) (by omega)]; omega
      have HNA := Lib.hid hNA
      clear hNA
      go_wp2_with fail
      go_loopg [11] 30 (fun r n wr => ∃ k : Nat, k + r = 30 ∧ n = .int .i64 (k : Int) ∧ Hid (Below w3.heap.size w3 wr))
      case atStart => exact ⟨0, rfl, rfl, Lib.hid (Below.refl _ _)⟩
      case round =>
        obtain ⟨k, hkr, rfl, hin⟩ := hrel
        have HIN := Lib.hid hin.out
        have HB9 := Lib.hid (HB3.out.trans (hin.out.mono HB3.out.size))
        have HP9 := Lib.hid (vec_step HP3.out hin.out)
        have HT9 := Lib.hid (HT3.out.below hin.out)
        clear hin
        by_cases hk1 : k < RL
        · by_cases hk2 : k < 30
          · have d1 : decide ((k : Int) < (RL : Int)) = true := decide_eq_true (by omega)
            have d1b : decide (k < RL) = true := decide_eq_true hk1
            have d2 : decide ((k : Int) < 30) = true := decide_eq_true (by omega)
            have d2b : decide (k < 30) = true := decide_eq_true hk2
            have HMS := Lib.hid (show 30 - (k + 1) < gk by omega)
            have HKR := Lib.hid (show k + 1 + (30 - (k + 1)) = 30 by omega)
            have i5 : IntKind.i64.wrap ((k : Int) + 1) = ((k + 1 : Nat) : Int) := by rw [wrap_in (by omega) (by omega)]; omega
            have hkl : k < rs.length := by have h := HNL.out.2.2.2; omega
            obtain ⟨br, orr, rfl, hbr, q0, q1, q2, q3, q4, q5⟩ := ray_at (HRS.out.below HB9.out (Nat.le_refl _)) k hkl
            obtain ⟨rk, hrk⟩ : ∃ x, x = rs[k] := ⟨_, rfl⟩
            have HRK := Lib.hid (show rk.ok by rw [hrk]; exact HRO.out _ (List.getElem_mem hkl))
            rw [← hrk] at q0 q1 q2 q3 q4 q5
            have HNS := Lib.hid (nearest_scan m rk least)
            have HCK := Lib.hid (HCO.out rk)
            have CNR := Lib.hid (fun w2 (h : TreeAt w2 g m) => near_any w2 g m h HOK.out (by have h1 := HCN.out; have h2 := HEQ.out.2.2.2; omega) rk HRK.out least)
            have CSC := Lib.hid (fun w2 (h : IsMesh w2 (.agg #[.slice a0 n0 c0, .slice a1 n1 c1, .slice a2 n2 c2]) m) => scan_any _ m w2 h HOK.out (by have h1 := HCN.out; have h2 := HEQ.out.2.2.2; unfold cntM at h2; omega) rk HRK.out least)
            rw [← HNS.out] at CSC
            obtain ⟨res, hres⟩ : ∃ x, x = nearestF m rk least := ⟨_, rfl⟩
            rw [← hres] at CNR CSC HCK
            obtain ⟨⟨ht, hi_, hu, hv⟩, co⟩ := res
            obtain ⟨⟨oX, oY, oZ⟩, ⟨dX, dY, dZ⟩⟩ := rk
            dsimp only [rayV, hitV] at CNR CSC q0 q1 q2 q3 q4 q5
            have CNX := Lib.hid (fun w2 (h : TreeAt w2 g m) => (show Calls Try.prog 5 #[.pointer (some ⟨g, 0, none⟩), .agg #[.int .i64 oX, .int .i64 oY, .int .i64 oZ, .int .i64 dX, .int .i64 dY, .int .i64 dZ], .int .i64 least] w2 (VTo (.tuple #[.agg #[.int .i64 ht, .int .i64 hi_, .int .i64 hu, .int .i64 hv], .int .i64 (co : Int)]) w2) from CNR.out w2 h))
            have d3 : decide ((co : Int) < 0) = false := decide_eq_false (by omega)
            have d4 : decide ((NA : Int) < (co : Int)) = false := decide_eq_false (by have h1 := HCK.out; have h2 := HNA.out; dsimp only at h1; omega)
            have d4b : decide (NA < co) = false := decide_eq_false (by have h1 := HCK.out; have h2 := HNA.out; dsimp only at h1; omega)
            have EQ := EQH ht hi_ hu hv
            clear hk2 hkr hkl hrk hres CNR
            go_wp2_with fail
            refine (CNX.out _ HT9.out).mono ?_
            rintro e y1 ⟨rfl, hb⟩
            have HB1 := Lib.hid (HB9.out.trans (hb.mono HB9.out.size))
            have HP1 := Lib.hid (vec_step HP9.out hb)
            have HT1 := Lib.hid (HT9.out.below hb)
            have HI1 := Lib.hid (HIN.out.trans (hb.mono HIN.out.size))
            have s0 := (hb.cell (p := ⟨br, orr + k * 6, none⟩) hbr).trans q0
            have s1 := (hb.cell (p := ⟨br, orr + k * 6 + 1, none⟩) hbr).trans q1
            have s2 := (hb.cell (p := ⟨br, orr + k * 6 + 2, none⟩) hbr).trans q2
            have s3 := (hb.cell (p := ⟨br, orr + k * 6 + 3, none⟩) hbr).trans q3
            have s4 := (hb.cell (p := ⟨br, orr + k * 6 + 4, none⟩) hbr).trans q4
            have s5 := (hb.cell (p := ⟨br, orr + k * 6 + 5, none⟩) hbr).trans q5
            have hbr1 := Nat.lt_of_lt_of_le hbr hb.size
            clear q0 q1 q2 q3 q4 q5 hb hbr HB9 HP9 HT9 HIN
            go_upto_region 13 with (fail)
            have hx := ext_alloc y1 (.cells #[.int .i64 ht, .int .i64 hi_, .int .i64 hu, .int .i64 hv] 38)
            have hn := heap_alloc_new y1 (.cells #[.int .i64 ht, .int .i64 hi_, .int .i64 hu, .int .i64 hv] 38)
            obtain ⟨y2, hW⟩ : ∃ ww, ww = y1.alloc (.cells #[.int .i64 ht, .int .i64 hi_, .int .i64 hu, .int .i64 hv] 38) := ⟨_, rfl⟩
            rw [← hW] at hx hn ⊢
            have HB2 := Lib.hid (HB1.out.trans (hx.mono HB1.out.size))
            have HP2 := Lib.hid (vec_step HP1.out hx)
            have HT2 := Lib.hid (HT1.out.below hx)
            have HI2 := Lib.hid (HI1.out.trans (hx.mono HI1.out.size))
            have t0 := fun d os => cell_regrown ((hx.cell (p := ⟨br, orr + k * 6, none⟩) hbr1).trans s0) d os
            have t1 := fun d os => cell_regrown ((hx.cell (p := ⟨br, orr + k * 6 + 1, none⟩) hbr1).trans s1) d os
            have t2 := fun d os => cell_regrown ((hx.cell (p := ⟨br, orr + k * 6 + 2, none⟩) hbr1).trans s2) d os
            have t3 := fun d os => cell_regrown ((hx.cell (p := ⟨br, orr + k * 6 + 3, none⟩) hbr1).trans s3) d os
            have t4 := fun d os => cell_regrown ((hx.cell (p := ⟨br, orr + k * 6 + 4, none⟩) hbr1).trans s4) d os
            have t5 := fun d os => cell_regrown ((hx.cell (p := ⟨br, orr + k * 6 + 5, none⟩) hbr1).trans s5) d os
            have e0 := fun d os => cell_regrown (cell_row hn 0 _ rfl) d os
            have e1 := fun d os => cell_regrown (cell_row hn 1 _ rfl) d os
            have e2 := fun d os => cell_regrown (cell_row hn 2 _ rfl) d os
            have e3 := fun d os => cell_regrown (cell_row hn 3 _ rfl) d os
            have p0 := fun d os => cell_regrown (cell_row HP2.out 0 _ rfl) d os
            have p1 := fun d os => cell_regrown (cell_row HP2.out 1 _ rfl) d os
            have p2 := fun d os => cell_regrown (cell_row HP2.out 2 _ rfl) d os
            have Q1 := Lib.hid (qb (P := Try.prog) (W := y2) (fun w2 hb => CSC.out w2 (HM.out.below (HB2.out.trans (hb.mono HB2.out.size)))))
            have Q2 := Lib.hid (qb (P := Try.prog) (W := y2) (fun w2 hb => (CN.out w2 (HT2.out.below hb)).mono (fun e w' h => ⟨h.1, by rw [← h.2]; exact Below.refl _ _⟩)))
            clear hn hx hW s0 s1 s2 s3 s4 s5 hbr1 HB1 HP1 HT1 HI1
            generalize y1.heap.size = gH at e0 e1 e2 e3 ⊢
            refine wp_region_quiet_below (by kernel_rfl) (by kernel_rfl) ?_
            repeat (go_big_quiet_step (first | (with_reducible exact Q1.out _ _) | (with_reducible exact Q2.out _ _)))
            refine wpQuiet_nil ?_
            first | (rintro _ ⟨⟨dq, osq⟩, rfl⟩) | (rintro ⟨dq, osq⟩)
            have hb := below_regrown y2 dq osq
            obtain ⟨y3, hW⟩ : ∃ ww, ww = grow (redrawn y2 dq) osq := ⟨_, rfl⟩
            rw [← hW] at hb ⊢
            have HI3 := Lib.hid (HI2.out.trans (hb.mono HI2.out.size))
            clear hW hb t0 t1 t2 t3 t4 t5 e0 e1 e2 e3 p0 p1 p2 Q1 Q2 d3 d4 d4b EQ
            go_wp2_with fail
            go_roundg (30 - (k + 1))
            case measure => exact HMS.out
            case rel => exact ⟨k + 1, HKR.out, by first | rfl | go_num, HI3⟩
          · have d1 : decide ((k : Int) < (RL : Int)) = true := decide_eq_true (by omega)
            have d1b : decide (k < RL) = true := decide_eq_true hk1
            have d2 : decide ((k : Int) < 30) = false := decide_eq_false (by omega)
            have d2b : decide (k < 30) = false := decide_eq_false hk2
            go_wp2_with fail
            refine (HAW.out _).mono ?_
            rintro e y1 ⟨rfl, hb⟩
            have HF := Lib.hid (HB9.out.trans (hb.mono HB9.out.size))
            go_wp2_with fail
            go_ret
            exact ⟨rfl, HF.out⟩
        · have d1 : decide ((k : Int) < (RL : Int)) = false := decide_eq_false (by omega)
          have d1b : decide (k < RL) = false := decide_eq_false hk1
          go_wp2_with fail
          refine (HAW.out _).mono ?_
          rintro e y1 ⟨rfl, hb⟩
          have HF := Lib.hid (HB9.out.trans (hb.mono HB9.out.size))
          go_wp2_with fail
          go_ret
          exact ⟨rfl, HF.out⟩
    · have h14 := check_is m hc
      have CB := Lib.hid (build_wrong HM1.out HOK.out hc 1048576)
      have CK := Lib.hid (fun w2 (h : IsMesh w2 (.agg #[.slice a0 n0 c0, .slice a1 n1 c1, .slice a2 n2 c2]) m) => check_any _ m w2 h)
      rw [h14] at CB CK
      clear hc h14
      go_wp2_with fail
      refine CB.out.mono ?_
      rintro e w2 ⟨rfl, hb⟩
      have HP2 := Lib.hid (vec_step HP1.out hb)
      have HB2 := Lib.hid (HB1.out.trans (hb.mono HB1.out.size))
      clear hb p0 p1 p2 CB HP1 HB1 HM1
      have p0 := cell_row HP2.out 0 _ rfl
      have p1 := cell_row HP2.out 1 _ rfl
      have p2 := cell_row HP2.out 2 _ rfl
      go_wp2_with fail
      refine (CK.out _ (HM.out.below HB2.out)).mono ?_
      rintro e w3 ⟨rfl, hb⟩
      have HB3 := Lib.hid (HB2.out.trans (hb.mono HB2.out.size))
      clear hb p0 p1 p2
      go_wp2_with fail
      refine (HAW.out _).mono ?_
      rintro e w4 ⟨rfl, hb⟩
      have HF := Lib.hid (HB3.out.trans (hb.mono HB3.out.size))
      go_wp2_with fail
      go_ret
      exact ⟨rfl, HF.out⟩
end Go.Proofs.Ytdaokkgenfpmhaa.BvhL
