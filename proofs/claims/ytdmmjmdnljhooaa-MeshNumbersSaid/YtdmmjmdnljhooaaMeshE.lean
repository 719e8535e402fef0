/- The walk of ref12's Check. -/
import Derived.Test.YtdmmjmdnljhooaaMeshD
set_option linter.unusedVariables false
set_option linter.unusedSimpArgs false
namespace Go.Proofs.Ytdmmjmdnljhooaa.MeshE
open Go.RowKit Go.Sort FixM Base Num Qb Qt VecW VecV VecU LightQ LightC MeshM Rec MeshA MeshB MeshC MeshD

theorem all_upto {α : Type} {F : α → Bool} {l : List α} (h : ∀ j (h : j < l.length), F l[j] = true) : l.all F = true := by
  rw [List.all_eq_true]
  intro x hx
  obtain ⟨j, hj, rfl⟩ := List.mem_iff_getElem.1 hx
  exact h j hj
theorem all_not {α : Type} {F : α → Bool} {l : List α} (i : Nat) (hi : i < l.length) (h : F l[i] = false) : l.all F = false := by
  rw [← Bool.not_eq_true]
  intro hall
  have := List.all_eq_true.1 hall _ (List.getElem_mem hi)
  rw [h] at this
  cases this
set_option maxRecDepth 100000 in
set_option maxHeartbeats 8000000 in
theorem rcheck_any (v : Value) (m : Msh) (w : World) (hm : IsMesh w v m) (hl : m.ts.length + m.bs.length ≤ 9223372036854775807) : Calls Try.prog 19 #[v] w (VTo (.int .i64 (checkF m)) w) := by
  obtain ⟨a0, c0, a1, c1, a2, c2, rfl, h0, h1, h2, l0, l1, l2⟩ := hm.open_
  have CT := Lib.hid (fun w' (hb : Below w.heap.size w w') => rcount_any _ m w' (hm.below hb) hl)
  obtain ⟨W, hW⟩ : ∃ W, W = w.alloc (.cells #[.slice a0 m.ps.length c0, .slice a1 m.ts.length c1, .slice a2 m.bs.length c2] 30) := ⟨_, rfl⟩
  have hB : Below w.heap.size w W := by rw [hW]; exact ext_alloc _ _
  have hR : W.heap[w.heap.size]? = some (.cells #[.slice a0 m.ps.length c0, .slice a1 m.ts.length c1, .slice a2 m.bs.length c2] 30) := by rw [hW]; exact heap_alloc_new _ _
  have R0 := Lib.hid (h0.below hB (Nat.le_refl _))
  have R1 := Lib.hid (h1.below hB (Nat.le_refl _))
  have R2 := Lib.hid (h2.below hB (Nat.le_refl _))
  have HF := Lib.hid (show checkF m = if tooF m then 14 else if (m.ps.all nearV && m.ts.all (hasF m.ps.length) && m.bs.all ballF) then 0 else 14 from rfl)
  have HTF := Lib.hid (show tooF m ↔ (4096 < m.ps.length ∨ 4096 < m.ts.length + m.bs.length) from Iff.rfl)
  obtain ⟨r, hr⟩ : ∃ r, r = checkF m := ⟨_, rfl⟩
  rw [← hr] at HF ⊢
  clear hr
  have HTH := Lib.hid (fun (t : V3) (W : World) => qb (P := Try.prog) (W := W) (fun w2 _ => there_any a0 m.ps.length c0 (.slice a1 m.ts.length c1) (.slice a2 m.bs.length c2) l0 t w2))
  obtain ⟨ps, ts, bs⟩ := m
  dsimp only at *
  obtain ⟨n0, hn0⟩ : ∃ n, n = ps.length := ⟨_, rfl⟩
  obtain ⟨n1, hn1⟩ : ∃ n, n = ts.length := ⟨_, rfl⟩
  obtain ⟨n2, hn2⟩ : ∃ n, n = bs.length := ⟨_, rfl⟩
  obtain ⟨N, hN⟩ : ∃ N : Int, N = ((ts.length + bs.length : Nat) : Int) := ⟨_, rfl⟩
  rw [← hN] at CT
  have HN := Lib.hid (show N = (n1 : Int) + (n2 : Int) by rw [hN, hn1, hn2]; omega)
  rw [← hn0, ← hn1, ← hn2] at HTF
  rw [← hn0] at HF
  rw [← hn0, ← hn1, ← hn2] at hR hW CT
  rw [← hn0] at l0 R0
  rw [← hn1] at l1 R1
  rw [← hn2] at l2 R2
  rw [← hn0, ← hn1, ← hn2] at HTH
  rw [← hn0, ← hn1, ← hn2]
  have HN0 := Lib.hid hn0
  have HN1 := Lib.hid hn1
  have HN2 := Lib.hid hn2
  have HR := Lib.hid hR
  have HB := Lib.hid hB
  have HWW := Lib.hid hW
  have NEAR := Lib.hid rnear_any
  clear hn0 hn1 hn2 hN hR hB hW hm h0 h1 h2 hl
  by_cases h0 : 4096 < n0
  · have d0 : decide (4096 < (n0 : Int)) = true := decide_eq_true (by omega)
    have er : r = 14 := by rw [HF.out, if_pos (HTF.out.2 (.inl h0))]
    have k0 := cell_row HR.out 0 (.slice a0 n0 c0) rfl
    clear h0
    subst er
    rw [HWW.out] at k0 HB
    go_enter Try.func19, Try.ntmps19
    go_wp2_with fail
    go_ret
    exact ⟨rfl, HB.out⟩
  · have d0 : decide (4096 < (n0 : Int)) = false := decide_eq_false (by omega)
    have k0 := cell_row HR.out 0 (.slice a0 n0 c0) rfl
    have k1 := cell_row HR.out 1 (.slice a1 n1 c1) rfl
    have k2 := cell_row HR.out 2 (.slice a2 n2 c2) rfl
    rw [HWW.out] at k0 k1 k2
    by_cases h1 : 4096 < n1 + n2
    · have d1 : decide (4096 < N) = true := decide_eq_true (by have := HN.out; omega)
      have er : r = 14 := by rw [HF.out, if_pos (HTF.out.2 (.inr h1))]
      clear h0 h1
      subst er
      go_enter Try.func19, Try.ntmps19
      go_wp2_with fail
      rw [← HWW.out]
      clear k0 k1 k2
      refine (CT.out _ HB.out).mono ?_
      rintro e w1 ⟨rfl, hb1⟩
      have HB1 := Lib.hid (HB.out.trans (hb1.mono HB.out.size))
      clear hb1
      go_wp2_with fail
      go_ret
      exact ⟨rfl, HB1.out⟩
    · have d1 : decide (4096 < N) = false := decide_eq_false (by have := HN.out; omega)
      have HE := Lib.hid (show r = if (ps.all nearV && ts.all (hasF n0) && bs.all ballF) = true then 0 else 14 by rw [HF.out, if_neg (fun h => by have := HTF.out.1 h; omega)])
      clear h0 h1 HF HTF
      go_enter Try.func19, Try.ntmps19
      go_wp2_with fail
      rw [← HWW.out]
      clear k0 k1 k2
      refine (CT.out _ HB.out).mono ?_
      rintro e w1 ⟨rfl, hb1⟩
      have HB1 := Lib.hid hb1
      clear hb1
      go_wp2_with fail
      clear CT
      go_loopg [3] n0 (fun r n9 wr => ∃ i : Nat, i + r = n0 ∧ n9 = .int .i64 (i : Int) ∧ Hid ((∀ j (h : j < ps.length), j < i → nearV ps[j] = true) ∧ Below W.heap.size W wr))
      case atStart => exact ⟨0, by omega, rfl, Lib.hid ⟨by omega, HB1.out⟩⟩
      case round =>
        obtain ⟨i, hir, rfl, hin⟩ := hrel
        have q0 := cell_row (vec_step HR.out hin.out.2) 0 (.slice a0 n0 c0) rfl
        by_cases hi : i < ps.length
        · have hv1 := R0.out.below hin.out.2 (Nat.le_refl _)
          obtain ⟨b, off, e, hb, p0, p1, p2⟩ := at3 hv1 i hi
          subst e
          obtain ⟨u, hu⟩ : ∃ u, u = ps[i] := ⟨_, rfl⟩
          rw [← hu] at p0 p1 p2
          have HU := Lib.hid hu
          clear hu hv1
          have hin0 : (i : Int) < (n0 : Int) := by have := HN0.out; omega
          have d3 : decide (i < n0) = true := decide_eq_true (by have := HN0.out; omega)
          have d2 : decide ((i : Int) < (n0 : Int)) = true := decide_eq_true hin0
          obtain ⟨V, hV⟩ : ∃ W, W = (wr.alloc (.cells #[.int .i64 0, .int .i64 0, .int .i64 0] 23)).setRow wr.heap.size #[.int .i64 u.x, .int .i64 u.y, .int .i64 u.z] := ⟨_, rfl⟩
          have G := Lib.hid (show V.heap[wr.heap.size]? = some (.cells #[.int .i64 u.x, .int .i64 u.y, .int .i64 u.z] 23) by rw [hV]; exact setRow_heap _ _ _ _ _ _ (heap_alloc_new _ _))
          have B := Lib.hid (hin.out.2.trans ((show Below wr.heap.size wr V by rw [hV]; exact below_setRow (ext_alloc _ _) (Nat.le_refl _) _).mono hin.out.2.size))
          have HVV := Lib.hid hV
          have HRR := Lib.hid hir
          clear hV hir
          obtain ⟨x, y, z⟩ := u
          go_upto_region 7 with (with_reducible refine store_recV rfl (.tmp 4) (.tmp 28) rfl rfl wr.heap.size x y z rfl rfl _ (heap_alloc_new _ _) rfl ?_)
          rw [← HVV.out]
          clear HVV p0 p1 p2 d2 d3 q0
          obtain ⟨e0, e1, e2⟩ : V.cell? ⟨wr.heap.size, 0, none⟩ = some (.int .i64 x) ∧ V.cell? ⟨wr.heap.size, 1, none⟩ = some (.int .i64 y) ∧ V.cell? ⟨wr.heap.size, 2, none⟩ = some (.int .i64 z) := ⟨cell_row G.out 0 _ rfl, cell_row G.out 1 _ rfl, cell_row G.out 2 _ rfl⟩
          have HQ := Lib.hid (show nearV ⟨x, y, z⟩ = (nearI x && nearI y && nearI z) from rfl)
          have N1 := Lib.hid (NEAR.out x)
          have N2 := Lib.hid (NEAR.out y)
          have N3 := Lib.hid (NEAR.out z)
          obtain ⟨s1, hs1⟩ : ∃ s, s = nearI x := ⟨_, rfl⟩
          obtain ⟨s2, hs2⟩ : ∃ s, s = nearI y := ⟨_, rfl⟩
          obtain ⟨s3, hs3⟩ : ∃ s, s = nearI z := ⟨_, rfl⟩
          rw [← hs1] at N1 HQ
          rw [← hs2] at N2 HQ
          rw [← hs3] at N3 HQ
          clear hs1 hs2 hs3
          go_wp2_with fail
          refine (N1.out _).mono ?_
          rintro e w2 ⟨rfl, rfl⟩
          cases s1
          · go_wp2_with fail
            go_ret
            have hh : nearV ps[i] = false := by rw [← HU.out, HQ.out]; rfl
            exact ⟨by rw [HE.out, all_not i hi hh]; rfl, HB.out.trans (B.out.mono HB.out.size)⟩
          · go_wp2_with fail
            refine (N2.out _).mono ?_
            rintro e w2 ⟨rfl, rfl⟩
            cases s2
            · go_wp2_with fail
              go_ret
              have hh : nearV ps[i] = false := by rw [← HU.out, HQ.out]; rfl
              exact ⟨by rw [HE.out, all_not i hi hh]; rfl, HB.out.trans (B.out.mono HB.out.size)⟩
            · go_wp2_with fail
              refine (N3.out _).mono ?_
              rintro e w2 ⟨rfl, rfl⟩
              cases s3
              · go_wp2_with fail
                go_ret
                have hh : nearV ps[i] = false := by rw [← HU.out, HQ.out]; rfl
                exact ⟨by rw [HE.out, all_not i hi hh]; rfl, HB.out.trans (B.out.mono HB.out.size)⟩
              · go_wp2_with fail
                go_roundg (n0 - (i + 1))
                case measure => have := HRR.out; have := HN0.out; omega
                case rel =>
                  refine ⟨i + 1, by have := HRR.out; have := HN0.out; omega, by go_num, Lib.hid ⟨fun j h hj => ?_, B.out⟩⟩
                  by_cases e : j = i
                  · subst e
                    rw [← HU.out, HQ.out]; rfl
                  · exact hin.out.1 j h (by omega)
        · have d3 : decide (i < n0) = false := decide_eq_false (by have := HN0.out; omega)
          have d2 : decide ((i : Int) < (n0 : Int)) = false := decide_eq_false (by have := HN0.out; omega)
          have HP := Lib.hid (all_upto (fun j h => hin.out.1 j h (by omega)))
          have HBI := Lib.hid hin.out.2
          clear hin
          go_wp2_with fail
          clear q0 d2 d3
          go_loopg [5] n1 (fun r n9 wr => ∃ i : Nat, i + r = n1 ∧ n9 = .int .i64 (i : Int) ∧ Hid ((∀ j (h : j < ts.length), j < i → hasF n0 ts[j] = true) ∧ Below W.heap.size W wr))
          case atStart => exact ⟨0, by omega, rfl, Lib.hid ⟨by omega, HBI.out⟩⟩
          case round =>
            obtain ⟨i, hir, rfl, hin⟩ := hrel
            have q1 := cell_row (vec_step HR.out hin.out.2) 1 (.slice a1 n1 c1) rfl
            by_cases hi : i < ts.length
            · have hv1 := R1.out.below hin.out.2 (Nat.le_refl _)
              obtain ⟨b, off, e, hb, p0, p1, p2⟩ := at3 hv1 i hi
              subst e
              obtain ⟨u, hu⟩ : ∃ u, u = ts[i] := ⟨_, rfl⟩
              rw [← hu] at p0 p1 p2
              have HU := Lib.hid hu
              clear hu hv1
              have d3 : decide (i < n1) = true := decide_eq_true (by have := HN1.out; omega)
              have d2 : decide ((i : Int) < (n1 : Int)) = true := decide_eq_true (by have := HN1.out; omega)
              have hin1 : (i : Int) < (n1 : Int) := by have := HN1.out; omega
              have HRR := Lib.hid hir
              clear hir
              obtain ⟨x, y, z⟩ := u
              go_upto_region 12 with (fail)
              clear q1 d2 d3
              have TH := Lib.hid (HTH.out ⟨x, y, z⟩ wr)
              obtain ⟨s1, hs1⟩ : ∃ s, s = hasF n0 ⟨x, y, z⟩ := ⟨_, rfl⟩
              rw [← hs1] at TH
              have HQ := Lib.hid hs1
              clear hs1
              have hmr := vec_step HR.out hin.out.2
              have m0 := cell_all hmr 0 (.slice a0 n0 c0) rfl
              have m1 := cell_all hmr 1 (.slice (some ⟨b, off, none⟩) n1 c1) rfl
              have m2 := cell_all hmr 2 (.slice a2 n2 c2) rfl
              have u0 := fun d os => cell_regrown p0 d os
              have u1 := fun d os => cell_regrown p1 d os
              have u2 := fun d os => cell_regrown p2 d os
              clear hmr p0 p1 p2
              refine wp_region_quiet_below (by kernel_rfl) (by kernel_rfl) ?_
              repeat (go_big_quiet_step (with_reducible exact TH.out _ _))
              refine wpQuiet_nil ?_
              first | (rintro _ ⟨⟨dq, osq⟩, rfl⟩) | (rintro ⟨dq, osq⟩)
              have B := Lib.hid (hin.out.2.trans ((below_regrown wr dq osq).mono hin.out.2.size))
              clear m0 m1 m2 u0 u1 u2
              cases s1
              · go_wp2_with fail
                go_ret
                have hh : hasF n0 ts[i] = false := by rw [← HU.out, ← HQ.out]
                exact ⟨by rw [HE.out, HP.out, all_not i hi hh]; rfl, HB.out.trans (B.out.mono HB.out.size)⟩
              · go_wp2_with fail
                go_roundg (n1 - (i + 1))
                case measure => have := HRR.out; have := HN1.out; omega
                case rel =>
                  refine ⟨i + 1, by have := HRR.out; have := HN1.out; omega, by go_num, Lib.hid ⟨fun j h hj => ?_, B.out⟩⟩
                  by_cases e : j = i
                  · subst e
                    rw [← HU.out, ← HQ.out]
                  · exact hin.out.1 j h (by omega)
            · have d3 : decide (i < n1) = false := decide_eq_false (by have := HN1.out; omega)
              have d2 : decide ((i : Int) < (n1 : Int)) = false := decide_eq_false (by have := HN1.out; omega)
              have HP1 := Lib.hid (all_upto (fun j h => hin.out.1 j h (by omega)))
              have HBI1 := Lib.hid hin.out.2
              clear hin HBI
              go_wp2_with fail
              clear q1 d2 d3
              go_loopg [6] n2 (fun r n9 wr => ∃ i : Nat, i + r = n2 ∧ n9 = .int .i64 (i : Int) ∧ Hid ((∀ j (h : j < bs.length), j < i → ballF bs[j] = true) ∧ Below W.heap.size W wr))
              case atStart => exact ⟨0, by omega, rfl, Lib.hid ⟨by omega, HBI1.out⟩⟩
              case round =>
                obtain ⟨i, hir, rfl, hin⟩ := hrel
                have q2 := cell_row (vec_step HR.out hin.out.2) 2 (.slice a2 n2 c2) rfl
                by_cases hi : i < bs.length
                · have hv1 := R2.out.below hin.out.2 (Nat.le_refl _)
                  obtain ⟨b, off, e, hb, p0, p1, p2, p3⟩ := at4 hv1 i hi
                  subst e
                  obtain ⟨u, hu⟩ : ∃ u, u = bs[i] := ⟨_, rfl⟩
                  rw [← hu] at p0 p1 p2 p3
                  have HU := Lib.hid hu
                  clear hu hv1
                  have hin2 : (i : Int) < (n2 : Int) := by have := HN2.out; omega
                  have d3 : decide (i < n2) = true := decide_eq_true (by have := HN2.out; omega)
                  have d2 : decide ((i : Int) < (n2 : Int)) = true := decide_eq_true hin2
                  obtain ⟨V, hV⟩ : ∃ W, W = (wr.alloc (.cells #[.int .i64 0, .int .i64 0, .int .i64 0, .int .i64 0] 26)).setRow wr.heap.size #[.int .i64 u.c.x, .int .i64 u.c.y, .int .i64 u.c.z, .int .i64 u.r] := ⟨_, rfl⟩
                  have G := Lib.hid (show V.heap[wr.heap.size]? = some (.cells #[.int .i64 u.c.x, .int .i64 u.c.y, .int .i64 u.c.z, .int .i64 u.r] 26) by rw [hV]; exact setRow_heap _ _ _ _ _ _ (heap_alloc_new _ _))
                  have B := Lib.hid (hin.out.2.trans ((show Below wr.heap.size wr V by rw [hV]; exact below_setRow (ext_alloc _ _) (Nat.le_refl _) _).mono hin.out.2.size))
                  have HVV := Lib.hid hV
                  have HRR := Lib.hid hir
                  clear hV hir
                  obtain ⟨⟨x, y, z⟩, s⟩ := u
                  go_upto_region 18 with (with_reducible refine store_recB rfl (.tmp 7) (.tmp 71) rfl rfl wr.heap.size x y z s rfl rfl _ (heap_alloc_new _ _) rfl ?_)
                  rw [← HVV.out]
                  clear HVV p0 p1 p2 p3 d2 d3 q2
                  obtain ⟨e0, e1, e2, e3⟩ : V.cell? ⟨wr.heap.size, 0, none⟩ = some (.int .i64 x) ∧ V.cell? ⟨wr.heap.size, 1, none⟩ = some (.int .i64 y) ∧ V.cell? ⟨wr.heap.size, 2, none⟩ = some (.int .i64 z) ∧ V.cell? ⟨wr.heap.size, 3, none⟩ = some (.int .i64 s) := ⟨cell_row G.out 0 _ rfl, cell_row G.out 1 _ rfl, cell_row G.out 2 _ rfl, cell_row G.out 3 _ rfl⟩
                  have HQ := Lib.hid (show ballF ⟨⟨x, y, z⟩, s⟩ = (nearI x && nearI y && nearI z && decide (1 ≤ s) && decide (s ≤ 4503599627370496)) from rfl)
                  have N1 := Lib.hid (NEAR.out x)
                  have N2 := Lib.hid (NEAR.out y)
                  have N3 := Lib.hid (NEAR.out z)
                  obtain ⟨s1, hs1⟩ : ∃ s, s = nearI x := ⟨_, rfl⟩
                  obtain ⟨s2, hs2⟩ : ∃ s, s = nearI y := ⟨_, rfl⟩
                  obtain ⟨s3, hs3⟩ : ∃ s, s = nearI z := ⟨_, rfl⟩
                  rw [← hs1] at N1 HQ
                  rw [← hs2] at N2 HQ
                  rw [← hs3] at N3 HQ
                  clear hs1 hs2 hs3
                  go_wp2_with fail
                  refine (N1.out _).mono ?_
                  rintro e w2 ⟨rfl, rfl⟩
                  cases s1
                  · go_wp2_with fail
                    go_ret
                    have hh : ballF bs[i] = false := by rw [← HU.out, HQ.out]; rfl
                    exact ⟨by rw [HE.out, HP.out, HP1.out, all_not i hi hh]; rfl, HB.out.trans (B.out.mono HB.out.size)⟩
                  · go_wp2_with fail
                    refine (N2.out _).mono ?_
                    rintro e w2 ⟨rfl, rfl⟩
                    cases s2
                    · go_wp2_with fail
                      go_ret
                      have hh : ballF bs[i] = false := by rw [← HU.out, HQ.out]; rfl
                      exact ⟨by rw [HE.out, HP.out, HP1.out, all_not i hi hh]; rfl, HB.out.trans (B.out.mono HB.out.size)⟩
                    · go_wp2_with fail
                      refine (N3.out _).mono ?_
                      rintro e w2 ⟨rfl, rfl⟩
                      cases s3
                      · go_wp2_with fail
                        go_ret
                        have hh : ballF bs[i] = false := by rw [← HU.out, HQ.out]; rfl
                        exact ⟨by rw [HE.out, HP.out, HP1.out, all_not i hi hh]; rfl, HB.out.trans (B.out.mono HB.out.size)⟩
                      · by_cases h4 : s < 1
                        · have d4 : decide (s < 1) = true := decide_eq_true h4
                          have HX := Lib.hid (show decide (1 ≤ s) = false from decide_eq_false (by omega))
                          clear h4
                          go_wp2_with fail
                          go_ret
                          have hh : ballF bs[i] = false := by rw [← HU.out, HQ.out, HX.out]; rfl
                          exact ⟨by rw [HE.out, HP.out, HP1.out, all_not i hi hh]; rfl, HB.out.trans (B.out.mono HB.out.size)⟩
                        · have d4 : decide (s < 1) = false := decide_eq_false h4
                          have HX := Lib.hid (show decide (1 ≤ s) = true from decide_eq_true (by omega))
                          by_cases h5 : 4503599627370496 < s
                          · have d5 : decide (4503599627370496 < s) = true := decide_eq_true h5
                            have HY := Lib.hid (show decide (s ≤ 4503599627370496) = false from decide_eq_false (by omega))
                            clear h4 h5
                            go_wp2_with fail
                            go_ret
                            have hh : ballF bs[i] = false := by rw [← HU.out, HQ.out, HX.out, HY.out]; rfl
                            exact ⟨by rw [HE.out, HP.out, HP1.out, all_not i hi hh]; rfl, HB.out.trans (B.out.mono HB.out.size)⟩
                          · have d5 : decide (4503599627370496 < s) = false := decide_eq_false h5
                            have HY := Lib.hid (show decide (s ≤ 4503599627370496) = true from decide_eq_true (by omega))
                            clear h4 h5
                            go_wp2_with fail
                            go_roundg (n2 - (i + 1))
                            case measure => have := HRR.out; have := HN2.out; omega
                            case rel =>
                              refine ⟨i + 1, by have := HRR.out; have := HN2.out; omega, by go_num, Lib.hid ⟨fun j h hj => ?_, B.out⟩⟩
                              by_cases e : j = i
                              · subst e
                                rw [← HU.out, HQ.out, HX.out, HY.out]; rfl
                              · exact hin.out.1 j h (by omega)
                · have d3 : decide (i < n2) = false := decide_eq_false (by have := HN2.out; omega)
                  have d2 : decide ((i : Int) < (n2 : Int)) = false := decide_eq_false (by have := HN2.out; omega)
                  have HP2 := Lib.hid (all_upto (fun j h => hin.out.1 j h (by omega)))
                  go_wp2_with fail
                  go_ret
                  exact ⟨by rw [HE.out, HP.out, HP1.out, HP2.out]; rfl, HB.out.trans (hin.out.2.mono HB.out.size)⟩
end Go.Proofs.Ytdmmjmdnljhooaa.MeshE
