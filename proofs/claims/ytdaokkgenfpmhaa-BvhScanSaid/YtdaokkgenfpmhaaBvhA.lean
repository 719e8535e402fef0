/- The small functions of layer 14. -/
import Derived.Test.YtdaokkgenfpmhaaBvhM
import Derived.Test.YtdaokkgenfpmhaaHitV
set_option linter.unusedVariables false
set_option linter.unusedSimpArgs false
namespace Go.Proofs.Ytdaokkgenfpmhaa.BvhA
open Go.RowKit Go.Sort FixM Base Num FixW Qb Qt Qa Qf VecW VecV VecU LightQ LightC MeshM Rec MeshA MeshB MeshC MeshD MeshE MeshP HitM HitT HitX HitN HitV BvhM
set_option maxRecDepth 100000 in
theorem better_any (h b : Ht) (w : World) : Calls Try.prog 16 #[hitV h, hitV b] w (VTo (.bool (betterF h b)) w) := by
  unfold betterF
  obtain ⟨ht, hi_, hu, hv⟩ := h
  obtain ⟨bt, bi, bu, bv⟩ := b
  dsimp only [hitV]
  have hA := alloc2_0 w (.cells #[.int .i64 ht, .int .i64 hi_, .int .i64 hu, .int .i64 hv] 38) (.cells #[.int .i64 bt, .int .i64 bi, .int .i64 bu, .int .i64 bv] 38)
  have hB := alloc2_1 w (.cells #[.int .i64 ht, .int .i64 hi_, .int .i64 hu, .int .i64 hv] 38) (.cells #[.int .i64 bt, .int .i64 bi, .int .i64 bu, .int .i64 bv] 38)
  have hB0 := alloc2_below w (.cells #[.int .i64 ht, .int .i64 hi_, .int .i64 hu, .int .i64 hv] 38) (.cells #[.int .i64 bt, .int .i64 bi, .int .i64 bu, .int .i64 bv] 38)
  obtain ⟨W, hW⟩ : ∃ ww, ww = (w.alloc (.cells #[.int .i64 ht, .int .i64 hi_, .int .i64 hu, .int .i64 hv] 38)).alloc (.cells #[.int .i64 bt, .int .i64 bi, .int .i64 bu, .int .i64 bv] 38) := ⟨_, rfl⟩
  rw [← hW] at hA hB hB0
  have HH0 := Lib.hid hA
  have HK0 := Lib.hid hB
  have HB0 := Lib.hid hB0
  have HWW := Lib.hid hW
  clear hA hB hB0 hW
  have c0 := cell_row HH0.out 0 _ rfl
  have c1 := cell_row HH0.out 1 _ rfl
  have e0 := cell_row HK0.out 0 _ rfl
  have e1 := cell_row HK0.out 1 _ rfl
  clear HH0 HK0
  by_cases h1 : bi < 0
  · rw [decide_eq_true h1]
    have d1 : decide (bi < 0) = true := decide_eq_true h1
    simp only [Bool.true_or]
    go_enter Try.func16, Try.ntmps16
    go_upto_region 1 with (fail)
    rw [← HWW.out]
    clear HWW
    go_wp2_with fail
    go_ret
    exact ⟨rfl, HB0.out⟩
  · rw [decide_eq_false h1]
    have d1 : decide (bi < 0) = false := decide_eq_false h1
    simp only [Bool.false_or]
    by_cases h2 : ht < bt
    · rw [decide_eq_true h2]
      have d2 : decide (ht < bt) = true := decide_eq_true h2
      simp only [Bool.true_or]
      go_enter Try.func16, Try.ntmps16
      go_upto_region 1 with (fail)
      rw [← HWW.out]
      clear HWW
      go_wp2_with fail
      go_ret
      exact ⟨rfl, HB0.out⟩
    · rw [decide_eq_false h2]
      have d2 : decide (ht < bt) = false := decide_eq_false h2
      simp only [Bool.false_or]
      by_cases h3 : ht = bt
      · rw [decide_eq_true h3]
        have d3 : (ht == bt) = true := beq_iff_eq.mpr h3
        simp only [Bool.true_and]
        obtain ⟨r, hr⟩ : ∃ r, r = decide (hi_ < bi) := ⟨_, rfl⟩
        rw [← hr]
        have d4 : decide (hi_ < bi) = r := hr.symm
        clear hr h3
        go_enter Try.func16, Try.ntmps16
        go_upto_region 1 with (fail)
        rw [← HWW.out]
        clear HWW
        go_wp2_with fail
        go_ret
        exact ⟨rfl, HB0.out⟩
      · rw [decide_eq_false h3]
        have d3 : (ht == bt) = false := beq_eq_false_iff_ne.mpr h3
        simp only [Bool.false_and]
        go_enter Try.func16, Try.ntmps16
        go_upto_region 1 with (fail)
        rw [← HWW.out]
        clear HWW
        go_wp2_with fail
        go_ret
        exact ⟨rfl, HB0.out⟩

set_option maxRecDepth 100000 in
theorem nodes_nil (w : World) : Calls Try.prog 6 #[.pointer none] w (fun e w' => e = .returned (.int .i64 0) ∧ w = w') := by
  go_enter Try.func6, Try.ntmps6
  go_wp2_with fail
  go_ret
  exact ⟨rfl, rfl⟩
set_option maxRecDepth 100000 in
theorem nodes_unmade (g : Nat) (w : World) (h : w.cell? ⟨g, 0, none⟩ = some (.bool false)) : Calls Try.prog 6 #[.pointer (some ⟨g, 0, none⟩)] w (fun e w' => e = .returned (.int .i64 0) ∧ w = w') := by
  go_enter Try.func6, Try.ntmps6
  go_wp2_with fail
  go_ret
  exact ⟨rfl, rfl⟩
set_option maxRecDepth 100000 in
theorem nodes_tree (g : Nat) (w : World) (a : Option Addr) (n c : Nat) (h : w.cell? ⟨g, 0, none⟩ = some (.bool true)) (h2 : w.cell? ⟨g, 4, none⟩ = some (.slice a n c)) : Calls Try.prog 6 #[.pointer (some ⟨g, 0, none⟩)] w (fun e w' => e = .returned (.int .i64 (n : Int)) ∧ w = w') := by
  go_enter Try.func6, Try.ntmps6
  go_wp2_with fail
  go_ret
  exact ⟨rfl, rfl⟩

set_option maxRecDepth 100000 in
theorem deep_nil (w : World) : Calls Try.prog 7 #[.pointer none] w (fun e w' => e = .returned (.int .i64 0) ∧ w = w') := by
  go_enter Try.func7, Try.ntmps7
  go_wp2_with fail
  go_ret
  exact ⟨rfl, rfl⟩
set_option maxRecDepth 100000 in
theorem deep_unmade (g : Nat) (w : World) (h : w.cell? ⟨g, 0, none⟩ = some (.bool false)) : Calls Try.prog 7 #[.pointer (some ⟨g, 0, none⟩)] w (fun e w' => e = .returned (.int .i64 0) ∧ w = w') := by
  go_enter Try.func7, Try.ntmps7
  go_wp2_with fail
  go_ret
  exact ⟨rfl, rfl⟩
set_option maxRecDepth 100000 in
theorem deep_tree (g : Nat) (w : World) (d : Int) (h : w.cell? ⟨g, 0, none⟩ = some (.bool true)) (h2 : w.cell? ⟨g, 6, none⟩ = some (.int .i64 d)) : Calls Try.prog 7 #[.pointer (some ⟨g, 0, none⟩)] w (fun e w' => e = .returned (.int .i64 d) ∧ w = w') := by
  go_enter Try.func7, Try.ntmps7
  go_wp2_with fail
  go_ret
  exact ⟨rfl, rfl⟩

def orF (x y : Int) : Int := if x ≠ 0 then x else y
set_option maxRecDepth 100000 in
set_option maxHeartbeats 2000000 in
theorem or_any (g : Nat) (x y : Int) (w : World) (h0 : w.cell? ⟨g, 0, none⟩ = some (.int .i64 x)) (h1 : w.cell? ⟨g, 1, none⟩ = some (.int .i64 y)) : Calls Try.prog 54 #[.slice (some ⟨g, 0, none⟩) 2 2] w (fun e w' => e = .returned (.int .i64 (orF x y)) ∧ w = w') := by
  obtain ⟨res, hres⟩ : ∃ r, r = orF x y := ⟨_, rfl⟩
  rw [← hres]
  unfold orF at hres
  have HRES := Lib.hid hres
  clear hres
  have HX : Hid (∀ k : Nat, k < 2 → w.cell? ⟨g, k, none⟩ = some (.int .i64 (if k = 0 then x else y))) := Lib.hid (fun k hk => by
    rcases (show k = 0 ∨ k = 1 by omega) with rfl | rfl
    · exact h0
    · exact h1)
  clear h0 h1
  have HNE : Hid (∀ k : Nat, k ≤ 2 → k ≤ 2) := Lib.hid (fun _ h => h)
  go_enter Try.func54, Try.ntmps54
  go_wp2_with fail
  go_loopg [8] 2 (fun r n8 wr => ∃ k : Nat, k + r = 2 ∧ n8 = .int .i64 (k : Int) ∧ Hid (w = wr ∧ (0 < k → x = 0) ∧ (1 < k → y = 0)))
  case atStart => exact ⟨0, by omega, rfl, Lib.hid ⟨rfl, by omega, by omega⟩⟩
  case round =>
    obtain ⟨k, hk, rfl, hin⟩ := hrel
    obtain ⟨rfl, hx, hy⟩ := hin.out
    rcases (show k = 0 ∨ k = 1 ∨ k = 2 by omega) with rfl | rfl | rfl
    · have c := HX.out 0 (by decide)
      simp only [if_true] at c
      by_cases e : x = 0
      · have b : (x == 0) = true := beq_iff_eq.mpr e
        clear hx hy hin
        go_wp2_with fail
        go_roundg 1
        case measure => omega
        case rel => exact ⟨1, by omega, rfl, Lib.hid ⟨rfl, fun _ => e, by omega⟩⟩
      · have b : (x == 0) = false := beq_eq_false_iff_ne.mpr e
        have er : res = x := by rw [HRES.out, if_pos e]
        subst er
        clear hx hy hin
        go_wp2_with fail
        go_ret
        exact ⟨rfl, rfl⟩
    · have c := HX.out 1 (by decide)
      have x0 := hx (by decide)
      rw [if_neg (by decide)] at c
      have er : res = y := by rw [HRES.out, if_neg (by simp [x0])]
      clear hx hin
      by_cases e : y = 0
      · have b : (y == 0) = true := beq_iff_eq.mpr e
        clear hy er
        go_wp2_with fail
        go_roundg 0
        case measure => omega
        case rel => exact ⟨2, by omega, rfl, Lib.hid ⟨rfl, fun _ => x0, fun _ => e⟩⟩
      · have b : (y == 0) = false := beq_eq_false_iff_ne.mpr e
        subst er
        clear hy
        go_wp2_with fail
        go_ret
        exact ⟨rfl, rfl⟩
    · have y0 := hy (by decide)
      have x0 := hx (by decide)
      have er : res = 0 := by rw [HRES.out, if_neg (by simp [x0]), y0]
      subst er
      clear hx hy hin
      go_wp2_with fail
      go_ret
      exact ⟨rfl, rfl⟩

end Go.Proofs.Ytdaokkgenfpmhaa.BvhA
