/- The walks of package fix and of its reference: sums, differences, signs, whole numbers. -/
import Derived.Test.YtdmmjmdnljhooaaRows
import Derived.Test.YtdmmjmdnljhooaaFixM
import Derived.Test.YtdmmjmdnljhooaaNum
import Derived.Test.YtdmmjmdnljhooaaBase
set_option linter.unusedVariables false
set_option linter.unusedSimpArgs false
namespace Go.Proofs.Ytdmmjmdnljhooaa.FixW
open Go.RowKit FixM Base Num

theorem clamp_top {x : Int} (h : 9223372036854775807 < x) : clamp x = 9223372036854775807 := by unfold clamp; rw [if_neg (by omega), if_pos h]
theorem clamp_bot {x : Int} (h : x < -9223372036854775808) : clamp x = -9223372036854775808 := by unfold clamp; rw [if_pos h]

set_option maxHeartbeats 1000000 in
theorem add_any (a b : Int) (ha1 : -9223372036854775808 ≤ a) (ha2 : a ≤ 9223372036854775807) (hb1 : -9223372036854775808 ≤ b) (hb2 : b ≤ 9223372036854775807) (w : World) :
    Calls Try.prog 34 #[.int .i64 a, .int .i64 b] w fun e w' => e = .returned (.int .i64 (addF a b)) ∧ w = w' := by
  by_cases h1 : 9223372036854775807 < a + b
  · have HV := Lib.hid (show addF a b = _ from clamp_top h1)
    have p0 : 0 < b := by omega
    have p1 : 9223372036854775807 - b < a := by omega
    clear h1
    go_enter Try.func34, Try.ntmps34
    go_wp2_with fail
    go_ret
    exact ⟨ret_int HV.out.symm, rfl⟩
  · by_cases h2 : a + b < -9223372036854775808
    · have HV := Lib.hid (show addF a b = _ from clamp_bot h2)
      have p0 : b < 0 := by omega
      have p1 : a < -9223372036854775808 - b := by omega
      clear h1 h2
      go_enter Try.func34, Try.ntmps34
      go_wp2_with fail
      go_ret
      exact ⟨ret_int HV.out.symm, rfl⟩
    · have HV := Lib.hid (show addF a b = a + b from clamp_id (by omega) (by omega))
      by_cases c0 : 0 < b
      · have p0 : a ≤ 9223372036854775807 - b := by omega
        clear h1 h2
        go_enter Try.func34, Try.ntmps34
        go_wp2_with fail
        go_ret
        exact ⟨ret_int HV.out.symm, rfl⟩
      · skip
        by_cases c1 : b < 0
        · have p0 : -9223372036854775808 - b ≤ a := by omega
          clear h1 h2
          go_enter Try.func34, Try.ntmps34
          go_wp2_with fail
          go_ret
          exact ⟨ret_int HV.out.symm, rfl⟩
        · skip
          have p0 : b = 0 := by omega
          clear h1 h2
          go_enter Try.func34, Try.ntmps34
          go_wp2_with fail
          go_ret
          subst p0
          exact ⟨ret_int (by have h := HV.out; omega), rfl⟩

set_option maxHeartbeats 1000000 in
theorem sub_any (a b : Int) (ha1 : -9223372036854775808 ≤ a) (ha2 : a ≤ 9223372036854775807) (hb1 : -9223372036854775808 ≤ b) (hb2 : b ≤ 9223372036854775807) (w : World) :
    Calls Try.prog 33 #[.int .i64 a, .int .i64 b] w fun e w' => e = .returned (.int .i64 (subF a b)) ∧ w = w' := by
  by_cases h1 : 9223372036854775807 < a - b
  · have HV := Lib.hid (show subF a b = _ from clamp_top h1)
    have p0 : b < 0 := by omega
    have p1 : 9223372036854775807 + b < a := by omega
    clear h1
    go_enter Try.func33, Try.ntmps33
    go_wp2_with fail
    go_ret
    exact ⟨ret_int HV.out.symm, rfl⟩
  · by_cases h2 : a - b < -9223372036854775808
    · have HV := Lib.hid (show subF a b = _ from clamp_bot h2)
      have p0 : 0 < b := by omega
      have p1 : a < -9223372036854775808 + b := by omega
      clear h1 h2
      go_enter Try.func33, Try.ntmps33
      go_wp2_with fail
      go_ret
      exact ⟨ret_int HV.out.symm, rfl⟩
    · have HV := Lib.hid (show subF a b = a - b from clamp_id (by omega) (by omega))
      by_cases c0 : b < 0
      · have p0 : a ≤ 9223372036854775807 + b := by omega
        clear h1 h2
        go_enter Try.func33, Try.ntmps33
        go_wp2_with fail
        go_ret
        exact ⟨ret_int HV.out.symm, rfl⟩
      · skip
        by_cases c1 : 0 < b
        · have p0 : -9223372036854775808 + b ≤ a := by omega
          clear h1 h2
          go_enter Try.func33, Try.ntmps33
          go_wp2_with fail
          go_ret
          exact ⟨ret_int HV.out.symm, rfl⟩
        · skip
          have p0 : b = 0 := by omega
          clear h1 h2
          go_enter Try.func33, Try.ntmps33
          go_wp2_with fail
          go_ret
          subst p0
          exact ⟨ret_int (by have h := HV.out; omega), rfl⟩

set_option maxHeartbeats 1000000 in
theorem radd_any (a b : Int) (ha1 : -9223372036854775808 ≤ a) (ha2 : a ≤ 9223372036854775807) (hb1 : -9223372036854775808 ≤ b) (hb2 : b ≤ 9223372036854775807) (w : World) :
    Calls Try.prog 45 #[.int .i64 a, .int .i64 b] w fun e w' => e = .returned (.int .i64 (addF a b)) ∧ w = w' := by
  by_cases h1 : 9223372036854775807 < a + b
  · have HV := Lib.hid (show addF a b = _ from clamp_top h1)
    have p0 : 0 ≤ a := by omega
    have p1 : 9223372036854775807 - a < b := by omega
    clear h1
    go_enter Try.func45, Try.ntmps45
    go_wp2_with fail
    go_ret
    exact ⟨ret_int HV.out.symm, rfl⟩
  · by_cases h2 : a + b < -9223372036854775808
    · have HV := Lib.hid (show addF a b = _ from clamp_bot h2)
      have p0 : a < 0 := by omega
      have p1 : b < -9223372036854775808 - a := by omega
      clear h1 h2
      go_enter Try.func45, Try.ntmps45
      go_wp2_with fail
      go_ret
      exact ⟨ret_int HV.out.symm, rfl⟩
    · have HV := Lib.hid (show addF a b = a + b from clamp_id (by omega) (by omega))
      by_cases c0 : 0 ≤ a
      · have p0 : b ≤ 9223372036854775807 - a := by omega
        clear h1 h2
        go_enter Try.func45, Try.ntmps45
        go_wp2_with fail
        go_ret
        exact ⟨ret_int HV.out.symm, rfl⟩
      · skip
        have p0 : a < 0 := by omega
        have p1 : -9223372036854775808 - a ≤ b := by omega
        clear h1 h2
        go_enter Try.func45, Try.ntmps45
        go_wp2_with fail
        go_ret
        exact ⟨ret_int HV.out.symm, rfl⟩

set_option maxHeartbeats 1000000 in
theorem rsub_any (a b : Int) (ha1 : -9223372036854775808 ≤ a) (ha2 : a ≤ 9223372036854775807) (hb1 : -9223372036854775808 ≤ b) (hb2 : b ≤ 9223372036854775807) (w : World) :
    Calls Try.prog 44 #[.int .i64 a, .int .i64 b] w fun e w' => e = .returned (.int .i64 (subF a b)) ∧ w = w' := by
  by_cases h1 : 9223372036854775807 < a - b
  · have HV := Lib.hid (show subF a b = _ from clamp_top h1)
    have p0 : b < 0 := by omega
    have p1 : 9223372036854775807 + b < a := by omega
    clear h1
    go_enter Try.func44, Try.ntmps44
    go_wp2_with fail
    go_ret
    exact ⟨ret_int HV.out.symm, rfl⟩
  · by_cases h2 : a - b < -9223372036854775808
    · have HV := Lib.hid (show subF a b = _ from clamp_bot h2)
      have p0 : 0 ≤ b := by omega
      have p1 : a < -9223372036854775808 + b := by omega
      clear h1 h2
      go_enter Try.func44, Try.ntmps44
      go_wp2_with fail
      go_ret
      exact ⟨ret_int HV.out.symm, rfl⟩
    · have HV := Lib.hid (show subF a b = a - b from clamp_id (by omega) (by omega))
      by_cases c0 : 0 ≤ b
      · have p0 : -9223372036854775808 + b ≤ a := by omega
        clear h1 h2
        go_enter Try.func44, Try.ntmps44
        go_wp2_with fail
        go_ret
        exact ⟨ret_int HV.out.symm, rfl⟩
      · skip
        have p0 : b < 0 := by omega
        have p1 : a ≤ 9223372036854775807 + b := by omega
        clear h1 h2
        go_enter Try.func44, Try.ntmps44
        go_wp2_with fail
        go_ret
        exact ⟨ret_int HV.out.symm, rfl⟩

end Go.Proofs.Ytdmmjmdnljhooaa.FixW
