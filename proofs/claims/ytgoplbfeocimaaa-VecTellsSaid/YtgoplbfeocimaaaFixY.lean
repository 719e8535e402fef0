/- The laws of layer 1. -/
import Derived.Test.YtgoplbfeocimaaaFixO
import Derived.Test.YtgoplbfeocimaaaFixN
import Derived.Test.YtgoplbfeocimaaaFixK
import Derived.Test.YtgoplbfeocimaaaFixP
set_option linter.unusedVariables false
set_option linter.unusedSimpArgs false
namespace Go.Proofs.Ytgoplbfeocimaaa.FixY
open Go.RowKit FixM Base Num FixW FixV FixU FixT FixS FixO FixN FixK FixP

theorem belowDN (w : World) (n : Nat) : Below w.heap.size w (w.drewN n) := ⟨rfl, rfl, rfl, Nat.le_refl _, fun _ _ => rfl⟩
def In2 (a b : Int) : Prop := -9223372036854775808 ≤ a ∧ a ≤ 9223372036854775807 ∧ -9223372036854775808 ≤ b ∧ b ≤ 9223372036854775807
instance (a b : Int) : Decidable (In2 a b) := by unfold In2; infer_instance

theorem addL (a b c : Int) (h : In2 a b ∧ addF a b = c) (w : World) : Calls Try.prog 46 #[.int .i64 a, .int .i64 b] w fun e w' => e = .returned (.int .i64 c) ∧ w = w' := by
  obtain ⟨⟨h1, h2, h3, h4⟩, rfl⟩ := h; exact add_any a b h1 h2 h3 h4 w
theorem subL (a b c : Int) (h : In2 a b ∧ subF a b = c) (w : World) : Calls Try.prog 47 #[.int .i64 a, .int .i64 b] w fun e w' => e = .returned (.int .i64 c) ∧ w = w' := by
  obtain ⟨⟨h1, h2, h3, h4⟩, rfl⟩ := h; exact sub_any a b h1 h2 h3 h4 w
theorem mulL (a b c : Int) (h : In2 a b ∧ mulF a b = c) (w : World) : Calls Try.prog 39 #[.int .i64 a, .int .i64 b] w fun e w' => e = .returned (.int .i64 c) ∧ w = w' := by
  obtain ⟨⟨h1, h2, h3, h4⟩, rfl⟩ := h; exact mul_any a b h1 h2 h3 h4 w
theorem divL (a b c : Int) (h : In2 a b ∧ divF a b = c) (w : World) : Calls Try.prog 38 #[.int .i64 a, .int .i64 b] w (Drawn (.int .i64 c) w) := by
  obtain ⟨⟨h1, h2, h3, h4⟩, rfl⟩ := h; exact div_any a b h1 h2 h3 h4 w
theorem negL (a c : Int) (h : In2 a 0 ∧ negF a = c) (w : World) : Calls Try.prog 48 #[.int .i64 a] w fun e w' => e = .returned (.int .i64 c) ∧ w = w' := by
  obtain ⟨⟨h1, h2, h3, h4⟩, rfl⟩ := h; exact neg_any a h1 h2 w
theorem ofL (a c : Int) (h : In2 a 0 ∧ ofF a = c) (w : World) : Calls Try.prog 44 #[.int .i64 a] w fun e w' => e = .returned (.int .i64 c) ∧ w = w' := by
  obtain ⟨⟨h1, h2, h3, h4⟩, rfl⟩ := h; exact of_any a h1 h2 w
theorem floorL (a c : Int) (h : In2 a 0 ∧ floorF a = c) (w : World) : Calls Try.prog 43 #[.int .i64 a] w fun e w' => e = .returned (.int .i64 c) ∧ w = w' := by
  obtain ⟨⟨h1, h2, h3, h4⟩, rfl⟩ := h; exact floor_any a h1 h2 w
theorem sqrtL (a c : Int) (h : In2 a 0 ∧ sqrtF a = c) (w : World) : Calls Try.prog 40 #[.int .i64 a] w fun e w' => e = .returned (.int .i64 c) ∧ w = w' := by
  obtain ⟨⟨h1, h2, h3, h4⟩, rfl⟩ := h; exact sqrt_any a h1 h2 w
theorem sinL (a c : Int) (h : In2 a 0 ∧ sinF a = c) (w : World) : Calls Try.prog 41 #[.int .i64 a] w fun e w' => e = .returned (.int .i64 c) ∧ w = w' := by
  obtain ⟨⟨h1, h2, h3, h4⟩, rfl⟩ := h; exact sin_any a h1 h2 w
theorem cosL (a c : Int) (h : In2 a 0 ∧ cosF a = c) (w : World) : Calls Try.prog 42 #[.int .i64 a] w fun e w' => e = .returned (.int .i64 c) ∧ w = w' := by
  obtain ⟨⟨h1, h2, h3, h4⟩, rfl⟩ := h; exact cos_any a h1 h2 w
theorem rsinL (a c : Int) (h : In2 a 0 ∧ sinF a = c) (w : World) : Calls Try.prog 51 #[.int .i64 a] w fun e w' => e = .returned (.int .i64 c) ∧ w = w' := by
  obtain ⟨⟨h1, h2, h3, h4⟩, rfl⟩ := h; exact rsin_any a h1 h2 w
theorem rcosL (a c : Int) (h : In2 a 0 ∧ cosF a = c) (w : World) : Calls Try.prog 50 #[.int .i64 a] w fun e w' => e = .returned (.int .i64 c) ∧ w = w' := by
  obtain ⟨⟨h1, h2, h3, h4⟩, rfl⟩ := h; exact rcos_any a h1 h2 w
set_option maxHeartbeats 1000000 in
theorem nearL (a b : Int) (h : -1000000000000 ≤ a ∧ a ≤ 1000000000000 ∧ -1000000000000 ≤ b ∧ b ≤ 1000000000000 ∧ a - b ≤ 16384 ∧ b - a ≤ 16384) (w : World) : Calls Try.prog 49 #[.int .i64 a, .int .i64 b] w fun e w' => e = .returned (.bool true) ∧ w = w' := by
  obtain ⟨h1, h2, h3, h4, h5, h6⟩ := h
  go_enter Try.func49, Try.ntmps49
  go_wp2_with fail
  go_ret
  exact ⟨rfl, rfl⟩
set_option maxRecDepth 100000 in
set_option maxHeartbeats 4000000 in
theorem awake_any (w : World) : Calls Try.prog 45 #[] w (Drawn (.bool true) w) := by
  go_enter Try.func45, Try.ntmps45
  go_wp2_with fail
  refine (ofL 3 12884901888 (by decide +kernel) _).mono ?_
  rintro e w1 ⟨rfl, rfl⟩
  go_wp2_with fail
  refine (ofL 1099511627776 9223372036854775807 (by decide +kernel) _).mono ?_
  rintro e w1 ⟨rfl, rfl⟩
  go_wp2_with fail
  refine (floorL (-1) (-1) (by decide +kernel) _).mono ?_
  rintro e w1 ⟨rfl, rfl⟩
  go_wp2_with fail
  refine (addL 9223372036854775807 1 9223372036854775807 (by decide +kernel) _).mono ?_
  rintro e w1 ⟨rfl, rfl⟩
  go_wp2_with fail
  refine (negL (-9223372036854775808) 9223372036854775807 (by decide +kernel) _).mono ?_
  rintro e w1 ⟨rfl, rfl⟩
  go_wp2_with fail
  refine (mulL 6442450944 (-2147483648) (-3221225472) (by decide +kernel) _).mono ?_
  rintro e w1 ⟨rfl, rfl⟩
  go_wp2_with fail
  refine (mulL 1 1 0 (by decide +kernel) _).mono ?_
  rintro e w1 ⟨rfl, rfl⟩
  go_wp2_with fail
  refine (mulL (-1) 1 (-1) (by decide +kernel) _).mono ?_
  rintro e w1 ⟨rfl, rfl⟩
  go_wp2_with fail
  refine (divL 4294967296 8589934592 2147483648 (by decide +kernel) _).mono ?_
  rintro e w1 ⟨rfl, n8, rfl⟩
  go_wp2_with fail
  refine (divL 5 0 9223372036854775807 (by decide +kernel) _).mono ?_
  rintro e w1 ⟨rfl, n9, rfl⟩
  go_wp2_with fail
  refine (ofL 2 8589934592 (by decide +kernel) _).mono ?_
  rintro e w1 ⟨rfl, rfl⟩
  go_wp2_with fail
  refine (sqrtL 8589934592 6074000999 (by decide +kernel) _).mono ?_
  rintro e w1 ⟨rfl, rfl⟩
  go_wp2_with fail
  refine (ofL 9 38654705664 (by decide +kernel) _).mono ?_
  rintro e w1 ⟨rfl, rfl⟩
  go_wp2_with fail
  refine (sqrtL 38654705664 12884901888 (by decide +kernel) _).mono ?_
  rintro e w1 ⟨rfl, rfl⟩
  go_wp2_with fail
  refine (ofL 3 12884901888 (by decide +kernel) _).mono ?_
  rintro e w1 ⟨rfl, rfl⟩
  go_wp2_with fail
  refine (sinL 0 0 (by decide +kernel) _).mono ?_
  rintro e w1 ⟨rfl, rfl⟩
  go_wp2_with fail
  go_ret
  exact ⟨rfl, _, rfl⟩
theorem drawn_below {v : Value} {w0 w : World} {e : Ending} {w' : World} (h : Drawn v w e w') (hb : Below w0.heap.size w0 w) : e = .returned v ∧ Below w0.heap.size w0 w' := by
  obtain ⟨h1, n, rfl⟩ := h; exact ⟨h1, hb.trans ((belowDN w n).mono hb.size)⟩
set_option maxRecDepth 100000 in
set_option maxHeartbeats 8000000 in
theorem numbers_any (w : World) : Calls Try.prog 8 #[] w fun e w' => e = .returned (.bool true) ∧ Below w.heap.size w w' := by
  go_enter Try.func8, Try.ntmps8
  go_wp2_with fail
  refine (divL (-1) 12884901888 (-1) (by decide +kernel) _).mono ?_
  rintro e w1 ⟨rfl, n0, rfl⟩
  go_wp2_with fail
  refine (divL 0 0 0 (by decide +kernel) _).mono ?_
  rintro e w1 ⟨rfl, n1, rfl⟩
  go_wp2_with fail
  refine (divL (-5) 0 (-9223372036854775808) (by decide +kernel) _).mono ?_
  rintro e w1 ⟨rfl, n2, rfl⟩
  go_wp2_with fail
  refine (sqrtL (-4) 0 (by decide +kernel) _).mono ?_
  rintro e w1 ⟨rfl, rfl⟩
  go_wp2_with fail
  refine (sqrtL 0 0 (by decide +kernel) _).mono ?_
  rintro e w1 ⟨rfl, rfl⟩
  go_wp2_with fail
  refine (sqrtL 1 65536 (by decide +kernel) _).mono ?_
  rintro e w1 ⟨rfl, rfl⟩
  go_wp2_with fail
  refine (subL 0 (-9223372036854775808) 9223372036854775807 (by decide +kernel) _).mono ?_
  rintro e w1 ⟨rfl, rfl⟩
  go_wp2_with fail
  refine (subL (-1) (-9223372036854775808) 9223372036854775807 (by decide +kernel) _).mono ?_
  rintro e w1 ⟨rfl, rfl⟩
  go_wp2_with fail
  refine (subL (-2) (-9223372036854775808) 9223372036854775806 (by decide +kernel) _).mono ?_
  rintro e w1 ⟨rfl, rfl⟩
  go_wp2_with fail
  refine (subL (-9223372036854775808) 1 (-9223372036854775808) (by decide +kernel) _).mono ?_
  rintro e w1 ⟨rfl, rfl⟩
  go_wp2_with fail
  refine (mulL (-9223372036854775808) (-9223372036854775808) 9223372036854775807 (by decide +kernel) _).mono ?_
  rintro e w1 ⟨rfl, rfl⟩
  go_wp2_with fail
  refine (mulL 9223372036854775807 (-9223372036854775808) (-9223372036854775808) (by decide +kernel) _).mono ?_
  rintro e w1 ⟨rfl, rfl⟩
  go_wp2_with fail
  refine (mulL (-9223372036854775808) 4294967296 (-9223372036854775808) (by decide +kernel) _).mono ?_
  rintro e w1 ⟨rfl, rfl⟩
  go_wp2_with fail
  refine (mulL 9223372036854775807 4294967296 9223372036854775807 (by decide +kernel) _).mono ?_
  rintro e w1 ⟨rfl, rfl⟩
  go_wp2_with fail
  refine (divL (-9223372036854775808) (-1) 9223372036854775807 (by decide +kernel) _).mono ?_
  rintro e w1 ⟨rfl, n14, rfl⟩
  go_wp2_with fail
  refine (divL (-9223372036854775808) 4294967296 (-9223372036854775808) (by decide +kernel) _).mono ?_
  rintro e w1 ⟨rfl, n15, rfl⟩
  go_wp2_with fail
  refine (divL 9223372036854775807 4294967296 9223372036854775807 (by decide +kernel) _).mono ?_
  rintro e w1 ⟨rfl, n16, rfl⟩
  go_wp2_with fail
  refine (divL 1 9223372036854775807 0 (by decide +kernel) _).mono ?_
  rintro e w1 ⟨rfl, n17, rfl⟩
  go_wp2_with fail
  refine (divL (-1) 9223372036854775807 (-1) (by decide +kernel) _).mono ?_
  rintro e w1 ⟨rfl, n18, rfl⟩
  go_wp2_with fail
  refine (ofL (-2147483648) (-9223372036854775808) (by decide +kernel) _).mono ?_
  rintro e w1 ⟨rfl, rfl⟩
  go_wp2_with fail
  refine (ofL 2147483648 9223372036854775807 (by decide +kernel) _).mono ?_
  rintro e w1 ⟨rfl, rfl⟩
  go_wp2_with fail
  refine (ofL 2147483647 9223372032559808512 (by decide +kernel) _).mono ?_
  rintro e w1 ⟨rfl, rfl⟩
  go_wp2_with fail
  refine (ofL (-2147483649) (-9223372036854775808) (by decide +kernel) _).mono ?_
  rintro e w1 ⟨rfl, rfl⟩
  go_wp2_with fail
  refine (floorL (-9223372036854775808) (-2147483648) (by decide +kernel) _).mono ?_
  rintro e w1 ⟨rfl, rfl⟩
  go_wp2_with fail
  refine (floorL 9223372036854775807 2147483647 (by decide +kernel) _).mono ?_
  rintro e w1 ⟨rfl, rfl⟩
  go_wp2_with fail
  refine (sinL 6746518852 4294967296 (by decide +kernel) _).mono ?_
  rintro e w1 ⟨rfl, rfl⟩
  go_wp2_with fail
  refine (nearL 4294967296 4294967296 (by decide) _).mono ?_
  rintro e w1 ⟨rfl, rfl⟩
  go_wp2_with fail
  refine (sinL 13493037704 0 (by decide +kernel) _).mono ?_
  rintro e w1 ⟨rfl, rfl⟩
  go_wp2_with fail
  refine (nearL 0 0 (by decide) _).mono ?_
  rintro e w1 ⟨rfl, rfl⟩
  go_wp2_with fail
  refine (cosL 13493037704 (-4294967296) (by decide +kernel) _).mono ?_
  rintro e w1 ⟨rfl, rfl⟩
  go_wp2_with fail
  refine (nearL (-4294967296) (-4294967296) (by decide) _).mono ?_
  rintro e w1 ⟨rfl, rfl⟩
  go_wp2_with fail
  refine (sinL 2248839617 2147483647 (by decide +kernel) _).mono ?_
  rintro e w1 ⟨rfl, rfl⟩
  go_wp2_with fail
  refine (nearL 2147483647 2147483648 (by decide) _).mono ?_
  rintro e w1 ⟨rfl, rfl⟩
  go_wp2_with fail
  refine (cosL 0 4294967296 (by decide +kernel) _).mono ?_
  rintro e w1 ⟨rfl, rfl⟩
  go_wp2_with fail
  refine (nearL 4294967296 4294967296 (by decide) _).mono ?_
  rintro e w1 ⟨rfl, rfl⟩
  go_wp2_with fail
  refine (sinL (-6746518852) (-4294967296) (by decide +kernel) _).mono ?_
  rintro e w1 ⟨rfl, rfl⟩
  go_wp2_with fail
  refine (nearL (-4294967296) (-4294967296) (by decide) _).mono ?_
  rintro e w1 ⟨rfl, rfl⟩
  go_wp2_with fail
  refine (sinL 26986075409 0 (by decide +kernel) _).mono ?_
  rintro e w1 ⟨rfl, rfl⟩
  go_wp2_with fail
  refine (cosL 9223372036854775807 (-4168142760) (by decide +kernel) _).mono ?_
  rintro e w1 ⟨rfl, rfl⟩
  go_wp2_with fail
  refine (rcosL 9223372036854775807 (-4168142760) (by decide +kernel) _).mono ?_
  rintro e w1 ⟨rfl, rfl⟩
  go_wp2_with fail
  refine (sinL (-9223372036854775808) 4168142758 (by decide +kernel) _).mono ?_
  rintro e w1 ⟨rfl, rfl⟩
  go_wp2_with fail
  refine (rsinL (-9223372036854775808) 4168142758 (by decide +kernel) _).mono ?_
  rintro e w1 ⟨rfl, rfl⟩
  go_wp2_with fail
  refine (awake_any _).mono ?_
  rintro e w1 ⟨rfl, n99, rfl⟩
  go_wp2_with fail
  go_ret
  simp only [World.drewN_drewN]
  exact ⟨rfl, belowDN _ _⟩
end Go.Proofs.Ytgoplbfeocimaaa.FixY
