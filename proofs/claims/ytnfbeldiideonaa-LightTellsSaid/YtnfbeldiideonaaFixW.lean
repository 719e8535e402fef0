/- The walks of package fix and of its reference: sums, differences, signs, whole numbers. -/
import Derived.Test.YtnfbeldiideonaaRows
import Derived.Test.YtnfbeldiideonaaFixM
import Derived.Test.YtnfbeldiideonaaNum
import Derived.Test.YtnfbeldiideonaaBase
set_option linter.unusedVariables false
set_option linter.unusedSimpArgs false
namespace Go.Proofs.Ytnfbeldiideonaa.FixW
open Go.RowKit FixM Base Num

theorem clamp_top {x : Int} (h : 9223372036854775807 < x) : clamp x = 9223372036854775807 := by unfold clamp; rw [if_neg (by omega), if_pos h]
theorem clamp_bot {x : Int} (h : x < -9223372036854775808) : clamp x = -9223372036854775808 := by unfold clamp; rw [if_pos h]

set_option maxHeartbeats 1000000 in
theorem add_any (a b : Int) (ha1 : -9223372036854775808 ≤ a) (ha2 : a ≤ 9223372036854775807) (hb1 : -9223372036854775808 ≤ b) (hb2 : b ≤ 9223372036854775807) (w : World) :
    Calls Try.prog 22 #[.int .i64 a, .int .i64 b] w fun e w' => e = .returned (.int .i64 (addF a b)) ∧ w = w' := by
  by_cases h1 : 9223372036854775807 < a + b
  · have HV := Lib.hid (show addF a b = _ from clamp_top h1)
    have p0 : 0 < b := by omega
    have p1 : 9223372036854775807 - b < a := by omega
    clear h1
    go_enter Try.func22, Try.ntmps22
    go_wp2_with fail
    go_ret
    exact ⟨ret_int HV.out.symm, rfl⟩
  · by_cases h2 : a + b < -9223372036854775808
    · have HV := Lib.hid (show addF a b = _ from clamp_bot h2)
      have p0 : b < 0 := by omega
      have p1 : a < -9223372036854775808 - b := by omega
      clear h1 h2
      go_enter Try.func22, Try.ntmps22
      go_wp2_with fail
      go_ret
      exact ⟨ret_int HV.out.symm, rfl⟩
    · have HV := Lib.hid (show addF a b = a + b from clamp_id (by omega) (by omega))
      by_cases c0 : 0 < b
      · have p0 : a ≤ 9223372036854775807 - b := by omega
        clear h1 h2
        go_enter Try.func22, Try.ntmps22
        go_wp2_with fail
        go_ret
        exact ⟨ret_int HV.out.symm, rfl⟩
      · skip
        by_cases c1 : b < 0
        · have p0 : -9223372036854775808 - b ≤ a := by omega
          clear h1 h2
          go_enter Try.func22, Try.ntmps22
          go_wp2_with fail
          go_ret
          exact ⟨ret_int HV.out.symm, rfl⟩
        · skip
          have p0 : b = 0 := by omega
          clear h1 h2
          go_enter Try.func22, Try.ntmps22
          go_wp2_with fail
          go_ret
          subst p0
          exact ⟨ret_int (by have h := HV.out; omega), rfl⟩

set_option maxHeartbeats 1000000 in
theorem sub_any (a b : Int) (ha1 : -9223372036854775808 ≤ a) (ha2 : a ≤ 9223372036854775807) (hb1 : -9223372036854775808 ≤ b) (hb2 : b ≤ 9223372036854775807) (w : World) :
    Calls Try.prog 28 #[.int .i64 a, .int .i64 b] w fun e w' => e = .returned (.int .i64 (subF a b)) ∧ w = w' := by
  by_cases h1 : 9223372036854775807 < a - b
  · have HV := Lib.hid (show subF a b = _ from clamp_top h1)
    have p0 : b < 0 := by omega
    have p1 : 9223372036854775807 + b < a := by omega
    clear h1
    go_enter Try.func28, Try.ntmps28
    go_wp2_with fail
    go_ret
    exact ⟨ret_int HV.out.symm, rfl⟩
  · by_cases h2 : a - b < -9223372036854775808
    · have HV := Lib.hid (show subF a b = _ from clamp_bot h2)
      have p0 : 0 < b := by omega
      have p1 : a < -9223372036854775808 + b := by omega
      clear h1 h2
      go_enter Try.func28, Try.ntmps28
      go_wp2_with fail
      go_ret
      exact ⟨ret_int HV.out.symm, rfl⟩
    · have HV := Lib.hid (show subF a b = a - b from clamp_id (by omega) (by omega))
      by_cases c0 : b < 0
      · have p0 : a ≤ 9223372036854775807 + b := by omega
        clear h1 h2
        go_enter Try.func28, Try.ntmps28
        go_wp2_with fail
        go_ret
        exact ⟨ret_int HV.out.symm, rfl⟩
      · skip
        by_cases c1 : 0 < b
        · have p0 : -9223372036854775808 + b ≤ a := by omega
          clear h1 h2
          go_enter Try.func28, Try.ntmps28
          go_wp2_with fail
          go_ret
          exact ⟨ret_int HV.out.symm, rfl⟩
        · skip
          have p0 : b = 0 := by omega
          clear h1 h2
          go_enter Try.func28, Try.ntmps28
          go_wp2_with fail
          go_ret
          subst p0
          exact ⟨ret_int (by have h := HV.out; omega), rfl⟩

set_option maxHeartbeats 1000000 in
theorem radd_any (a b : Int) (ha1 : -9223372036854775808 ≤ a) (ha2 : a ≤ 9223372036854775807) (hb1 : -9223372036854775808 ≤ b) (hb2 : b ≤ 9223372036854775807) (w : World) :
    Calls Try.prog 36 #[.int .i64 a, .int .i64 b] w fun e w' => e = .returned (.int .i64 (addF a b)) ∧ w = w' := by
  by_cases h1 : 9223372036854775807 < a + b
  · have HV := Lib.hid (show addF a b = _ from clamp_top h1)
    have p0 : 0 ≤ a := by omega
    have p1 : 9223372036854775807 - a < b := by omega
    clear h1
    go_enter Try.func36, Try.ntmps36
    go_wp2_with fail
    go_ret
    exact ⟨ret_int HV.out.symm, rfl⟩
  · by_cases h2 : a + b < -9223372036854775808
    · have HV := Lib.hid (show addF a b = _ from clamp_bot h2)
      have p0 : a < 0 := by omega
      have p1 : b < -9223372036854775808 - a := by omega
      clear h1 h2
      go_enter Try.func36, Try.ntmps36
      go_wp2_with fail
      go_ret
      exact ⟨ret_int HV.out.symm, rfl⟩
    · have HV := Lib.hid (show addF a b = a + b from clamp_id (by omega) (by omega))
      by_cases c0 : 0 ≤ a
      · have p0 : b ≤ 9223372036854775807 - a := by omega
        clear h1 h2
        go_enter Try.func36, Try.ntmps36
        go_wp2_with fail
        go_ret
        exact ⟨ret_int HV.out.symm, rfl⟩
      · skip
        have p0 : a < 0 := by omega
        have p1 : -9223372036854775808 - a ≤ b := by omega
        clear h1 h2
        go_enter Try.func36, Try.ntmps36
        go_wp2_with fail
        go_ret
        exact ⟨ret_int HV.out.symm, rfl⟩

set_option maxHeartbeats 1000000 in
theorem rsub_any (a b : Int) (ha1 : -9223372036854775808 ≤ a) (ha2 : a ≤ 9223372036854775807) (hb1 : -9223372036854775808 ≤ b) (hb2 : b ≤ 9223372036854775807) (w : World) :
    Calls Try.prog 33 #[.int .i64 a, .int .i64 b] w fun e w' => e = .returned (.int .i64 (subF a b)) ∧ w = w' := by
  by_cases h1 : 9223372036854775807 < a - b
  · have HV := Lib.hid (show subF a b = _ from clamp_top h1)
    have p0 : b < 0 := by omega
    have p1 : 9223372036854775807 + b < a := by omega
    clear h1
    go_enter Try.func33, Try.ntmps33
    go_wp2_with fail
    go_ret
    exact ⟨ret_int HV.out.symm, rfl⟩
  · by_cases h2 : a - b < -9223372036854775808
    · have HV := Lib.hid (show subF a b = _ from clamp_bot h2)
      have p0 : 0 ≤ b := by omega
      have p1 : a < -9223372036854775808 + b := by omega
      clear h1 h2
      go_enter Try.func33, Try.ntmps33
      go_wp2_with fail
      go_ret
      exact ⟨ret_int HV.out.symm, rfl⟩
    · have HV := Lib.hid (show subF a b = a - b from clamp_id (by omega) (by omega))
      by_cases c0 : 0 ≤ b
      · have p0 : -9223372036854775808 + b ≤ a := by omega
        clear h1 h2
        go_enter Try.func33, Try.ntmps33
        go_wp2_with fail
        go_ret
        exact ⟨ret_int HV.out.symm, rfl⟩
      · skip
        have p0 : b < 0 := by omega
        have p1 : a ≤ 9223372036854775807 + b := by omega
        clear h1 h2
        go_enter Try.func33, Try.ntmps33
        go_wp2_with fail
        go_ret
        exact ⟨ret_int HV.out.symm, rfl⟩

set_option maxHeartbeats 1000000 in
theorem neg_any (a : Int) (ha1 : -9223372036854775808 ≤ a) (ha2 : a ≤ 9223372036854775807) (w : World) :
    Calls Try.prog 42 #[.int .i64 a] w fun e w' => e = .returned (.int .i64 (negF a)) ∧ w = w' := by
  by_cases h1 : a = -9223372036854775808
  · subst h1
    go_enter Try.func42, Try.ntmps42
    go_wp2_with fail
    go_ret
    exact ⟨rfl, rfl⟩
  · have HV := Lib.hid (show negF a = -a from clamp_id (by omega) (by omega))
    have p0 : (a == -9223372036854775808) = false := by simp; omega
    have p1 : -9223372036854775808 < a := by omega
    clear h1
    go_enter Try.func42, Try.ntmps42
    go_wp2_with fail
    go_ret
    exact ⟨ret_int (by rw [HV.out]; try omega), rfl⟩

end Go.Proofs.Ytnfbeldiideonaa.FixW
