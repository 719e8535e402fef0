/- The walks of mesh.Check and Count. -/
import Derived.Test.YtdmmjmdnljhooaaMeshB
set_option linter.unusedVariables false
set_option linter.unusedSimpArgs false
namespace Go.Proofs.Ytdmmjmdnljhooaa.MeshC
open Go.RowKit Go.Sort FixM Base Num Qb Qt VecW VecV VecU LightQ LightC MeshM Rec MeshA MeshB

theorem wrap_in {x : Int} (h1 : -9223372036854775808 ≤ x) (h2 : x ≤ 9223372036854775807) : IntKind.i64.wrap x = x := by
  show (if IntKind.i64.signed && decide (x % 18446744073709551616 ≥ 9223372036854775808) then x % 18446744073709551616 - 18446744073709551616 else x % 18446744073709551616) = x
  simp [IntKind.signed]; omega
theorem hmf (fn : Fn) (first cap : Array Value) (w : World) : (Instr.makeFunc fn first cap).run Try.prog w = .ok (.func fn first cap) w := rfl
set_option maxRecDepth 100000 in
set_option maxHeartbeats 4000000 in
theorem check_any (v : Value) (m : Msh) (w : World) (hm : IsMesh w v m) : Calls Try.prog 7 #[v] w (VTo (.int .i64 (checkF m)) w) := by
  obtain ⟨a0, c0, a1, c1, a2, c2, rfl, h0, h1, h2, l0, l1, l2⟩ := hm.open_
  obtain ⟨W, hW⟩ : ∃ W, W = w.alloc (.cells #[.slice a0 m.ps.length c0, .slice a1 m.ts.length c1, .slice a2 m.bs.length c2] 30) := ⟨_, rfl⟩
  have hB : Below w.heap.size w W := by rw [hW]; exact ext_alloc _ _
  have hR : W.heap[w.heap.size]? = some (.cells #[.slice a0 m.ps.length c0, .slice a1 m.ts.length c1, .slice a2 m.bs.length c2] 30) := by rw [hW]; exact heap_alloc_new _ _
  have k0 := cell_row hR 0 (.slice a0 m.ps.length c0) rfl
  have k1 := cell_row hR 1 (.slice a1 m.ts.length c1) rfl
  have k2 := cell_row hR 2 (.slice a2 m.bs.length c2) rfl
  have A0 := Lib.hid (allV_any 27 #[] nearV _ m.ps W (h0.below hB (Nat.le_refl _)) (enters Try.func27 (by kernel_rfl) rfl) (fun x w' _ => near_any x w'))
  have A1 := Lib.hid (fun W' (hb : Below W.heap.size W W') => allT_any 29 #[.pointer (some ⟨w.heap.size, 0, none⟩)] (hasF m.ps.length) _ m.ts W' ((h1.below hB (Nat.le_refl _)).below hb (Nat.le_refl _)) (enters Try.func29 (by kernel_rfl) rfl)
    (fun x w' hb' => tri_any x w.heap.size m.ps.length a0 c0 (.slice a1 m.ts.length c1) (.slice a2 m.bs.length c2) l0 w' ((hb'.block _ (Nat.lt_of_lt_of_le (lt_of_heap hR) hb.size)).trans ((hb.block _ (lt_of_heap hR)).trans hR))))
  have A2 := Lib.hid (fun W' (hb : Below W.heap.size W W') => allB_any 32 #[] ballF _ m.bs W' ((h2.below hB (Nat.le_refl _)).below hb (Nat.le_refl _)) (enters Try.func32 (by kernel_rfl) rfl) (fun x w' _ => ball_any x w'))
  have hF : checkF m = if tooF m then 14 else if (m.ps.all nearV && m.ts.all (hasF m.ps.length) && m.bs.all ballF) then 0 else 14 := rfl
  have HF := Lib.hid hF
  have HTF := Lib.hid (show tooF m ↔ (4096 < m.ps.length ∨ 4096 < m.ts.length + m.bs.length) from Iff.rfl)
  obtain ⟨r, hr⟩ : ∃ r, r = checkF m := ⟨_, rfl⟩
  rw [← hr] at HF ⊢
  clear hF hr
  obtain ⟨b0, hb0⟩ : ∃ b, b = m.ps.all nearV := ⟨_, rfl⟩
  obtain ⟨b1, hb1⟩ : ∃ b, b = m.ts.all (hasF m.ps.length) := ⟨_, rfl⟩
  obtain ⟨b2, hb2⟩ : ∃ b, b = m.bs.all ballF := ⟨_, rfl⟩
  rw [← hb0] at A0 HF
  rw [← hb1] at A1 HF
  rw [← hb2] at A2 HF
  clear hb0 hb1 hb2 hm h0 h1 h2
  have HMF := hmf
  obtain ⟨n0, hn0⟩ : ∃ n, n = m.ps.length := ⟨_, rfl⟩
  obtain ⟨n1, hn1⟩ : ∃ n, n = m.ts.length := ⟨_, rfl⟩
  obtain ⟨n2, hn2⟩ : ∃ n, n = m.bs.length := ⟨_, rfl⟩
  rw [← hn0, ← hn1, ← hn2] at HTF
  rw [← hn0, ← hn1, ← hn2] at hR hW
  rw [← hn0] at k0 A0 l0
  rw [← hn1] at k1 A1 l1
  rw [← hn2] at k2 A2 l2
  rw [← hn0, ← hn1, ← hn2]
  have HR := Lib.hid hR
  have HB := Lib.hid hB
  have HWW := Lib.hid hW
  clear hn0 hn1 hn2 hR hB hW
  by_cases h0 : 4096 < n0
  · have d0 : decide (4096 < (n0 : Int)) = true := decide_eq_true (by omega)
    have er : r = 14 := by rw [HF.out, if_pos (HTF.out.2 (.inl h0))]
    clear h0
    subst er
    rw [HWW.out] at k0 HB
    go_enter Try.func7, Try.ntmps7
    go_wp2_with fail
    go_ret
    exact ⟨rfl, HB.out⟩
  · have d0 : decide (4096 < (n0 : Int)) = false := decide_eq_false (by omega)
    by_cases h1 : 4096 < n1
    · have d1 : decide (4096 < (n1 : Int)) = true := decide_eq_true (by omega)
      have er : r = 14 := by rw [HF.out, if_pos (HTF.out.2 (.inr (by omega)))]
      clear h0 h1
      subst er
      rw [HWW.out] at k0 k1 HB
      go_enter Try.func7, Try.ntmps7
      go_wp2_with fail
      go_ret
      exact ⟨rfl, HB.out⟩
    · have d1 : decide (4096 < (n1 : Int)) = false := decide_eq_false (by omega)
      have wr : IntKind.i64.wrap (4096 - (n1 : Int)) = 4096 - (n1 : Int) := wrap_in (by omega) (by omega)
      by_cases h2 : 4096 < n1 + n2
      · have d2 : decide (4096 - (n1 : Int) < (n2 : Int)) = true := decide_eq_true (by omega)
        have er : r = 14 := by rw [HF.out, if_pos (HTF.out.2 (.inr h2))]
        clear h0 h1 h2
        subst er
        rw [HWW.out] at k0 k1 k2 HB
        go_enter Try.func7, Try.ntmps7
        go_wp2_with fail
        go_ret
        exact ⟨rfl, HB.out⟩
      · have d2 : decide (4096 - (n1 : Int) < (n2 : Int)) = false := decide_eq_false (by omega)
        have er : r = if (b0 && b1 && b2) = true then 0 else 14 := by rw [HF.out, if_neg (fun h => by have := HTF.out.1 h; omega)]
        have HE := Lib.hid er
        clear h0 h1 h2 er HF HTF
        rw [HWW.out] at k0 k1 k2
        go_enter Try.func7, Try.ntmps7
        go_wp2_with fail
        rw [← HWW.out]
        clear k0 k1 k2
        refine A0.out.mono ?_
        rintro e w1 ⟨rfl, hb1⟩
        have HB1 := Lib.hid hb1
        have k1 := (hb1.cell (p := ⟨w.heap.size, 1, none⟩) (lt_of_heap HR.out)).trans (cell_row HR.out 1 (.slice a1 n1 c1) rfl)
        clear hb1
        cases b0
        · have he : r = 14 := by rw [HE.out]; rfl
          subst he
          go_wp2_with fail
          go_ret
          exact ⟨rfl, HB.out.trans (HB1.out.mono HB.out.size)⟩
        · go_wp2_with fail
          refine (A1.out _ HB1.out).mono ?_
          rintro e w2 ⟨rfl, hb2⟩
          have HB2 := Lib.hid (HB1.out.trans (hb2.mono HB1.out.size))
          clear hb2 k1
          have k2 := (HB2.out.cell (p := ⟨w.heap.size, 2, none⟩) (lt_of_heap HR.out)).trans (cell_row HR.out 2 (.slice a2 n2 c2) rfl)
          cases b1
          · have he : r = 14 := by rw [HE.out]; rfl
            subst he
            go_wp2_with fail
            go_ret
            exact ⟨rfl, HB.out.trans (HB2.out.mono HB.out.size)⟩
          · go_wp2_with fail
            refine (A2.out _ HB2.out).mono ?_
            rintro e w3 ⟨rfl, hb3⟩
            have HB3 := Lib.hid (HB2.out.trans (hb3.mono HB2.out.size))
            clear hb3 k2
            cases b2
            · have he : r = 14 := by rw [HE.out]; rfl
              subst he
              go_wp2_with fail
              go_ret
              exact ⟨rfl, HB.out.trans (HB3.out.mono HB.out.size)⟩
            · have he : r = 0 := by rw [HE.out]; rfl
              subst he
              go_wp2_with fail
              go_ret
              exact ⟨rfl, HB.out.trans (HB3.out.mono HB.out.size)⟩
set_option maxRecDepth 100000 in
theorem count_any (v : Value) (m : Msh) (w : World) (hm : IsMesh w v m) (hl : m.ts.length + m.bs.length ≤ 9223372036854775807) : Calls Try.prog 20 #[v] w (VTo (.int .i64 ((m.ts.length + m.bs.length : Nat) : Int)) w) := by
  obtain ⟨a0, c0, a1, c1, a2, c2, rfl, h0, h1, h2, l0, l1, l2⟩ := hm.open_
  have HB := Lib.hid (ext_alloc w (.cells #[.slice a0 m.ps.length c0, .slice a1 m.ts.length c1, .slice a2 m.bs.length c2] 30))
  have hR := heap_alloc_new w (.cells #[.slice a0 m.ps.length c0, .slice a1 m.ts.length c1, .slice a2 m.bs.length c2] 30)
  have k1 := cell_row hR 1 (.slice a1 m.ts.length c1) rfl
  have k2 := cell_row hR 2 (.slice a2 m.bs.length c2) rfl
  have wr : IntKind.i64.wrap ((m.ts.length : Int) + (m.bs.length : Int)) = ((m.ts.length + m.bs.length : Nat) : Int) := by rw [wrap_in (by omega) (by omega)]; omega
  obtain ⟨N, hN⟩ : ∃ N : Int, N = ((m.ts.length + m.bs.length : Nat) : Int) := ⟨_, rfl⟩
  rw [← hN] at wr ⊢
  clear hR h0 h1 h2 hm hl hN
  go_enter Try.func20, Try.ntmps20
  go_wp2_with fail
  go_ret
  exact ⟨rfl, HB.out⟩
set_option maxRecDepth 100000 in
theorem rcount_any (v : Value) (m : Msh) (w : World) (hm : IsMesh w v m) (hl : m.ts.length + m.bs.length ≤ 9223372036854775807) : Calls Try.prog 17 #[v] w (VTo (.int .i64 ((m.ts.length + m.bs.length : Nat) : Int)) w) := by
  obtain ⟨a0, c0, a1, c1, a2, c2, rfl, h0, h1, h2, l0, l1, l2⟩ := hm.open_
  have HB := Lib.hid (ext_alloc w (.cells #[.slice a0 m.ps.length c0, .slice a1 m.ts.length c1, .slice a2 m.bs.length c2] 30))
  have hR := heap_alloc_new w (.cells #[.slice a0 m.ps.length c0, .slice a1 m.ts.length c1, .slice a2 m.bs.length c2] 30)
  have k1 := cell_row hR 1 (.slice a1 m.ts.length c1) rfl
  have k2 := cell_row hR 2 (.slice a2 m.bs.length c2) rfl
  have wr : IntKind.i64.wrap ((m.ts.length : Int) + (m.bs.length : Int)) = ((m.ts.length + m.bs.length : Nat) : Int) := by rw [wrap_in (by omega) (by omega)]; omega
  obtain ⟨N, hN⟩ : ∃ N : Int, N = ((m.ts.length + m.bs.length : Nat) : Int) := ⟨_, rfl⟩
  rw [← hN] at wr ⊢
  clear hR h0 h1 h2 hm hl hN
  go_enter Try.func17, Try.ntmps17
  go_wp2_with fail
  go_ret
  exact ⟨rfl, HB.out⟩
end Go.Proofs.Ytdmmjmdnljhooaa.MeshC
