/- The walks of layer 1: quotients of the program, roots and cosines of both sides. -/
import Derived.Test.YtnfbeldiideonaaFixQ
import Derived.Test.YtnfbeldiideonaaFixS
set_option linter.unusedVariables false
set_option linter.unusedSimpArgs false
namespace Go.Proofs.Ytnfbeldiideonaa.FixO
open Go.RowKit FixM FixD Base Num FixW FixV FixU FixT FixS FixQ

theorem quo_args (A B : Nat) (hA : A ≤ 9223372036854775808) (hB : 1 ≤ B) (hB2 : B ≤ 9223372036854775808) :
    ((A / 4294967296 % B) * 18446744073709551616 + A * 4294967296 % 18446744073709551616) / B = A * 4294967296 / B % 18446744073709551616 ∧
    ((A / 4294967296 % B) * 18446744073709551616 + A * 4294967296 % 18446744073709551616) % B = A * 4294967296 % B ∧
    A / 4294967296 / B = A * 4294967296 / B / 18446744073709551616 := by
  have hl : A * 4294967296 % 18446744073709551616 < 18446744073709551616 := Nat.mod_lt _ (by decide)
  have hX : A * 4294967296 = (A / 4294967296) * 18446744073709551616 + A * 4294967296 % 18446744073709551616 := by omega
  obtain ⟨g1, g2⟩ := whole_gen B (A / 4294967296) 18446744073709551616 (A * 4294967296 % 18446744073709551616) (by omega)
  rw [← hX] at g1 g2
  have hq : ((A / 4294967296 % B) * 18446744073709551616 + A * 4294967296 % 18446744073709551616) / B < 18446744073709551616 := by
    rw [Nat.div_lt_iff_lt_mul (by omega)]
    have h1 : A / 4294967296 % B + 1 ≤ B := Nat.mod_lt _ (by omega)
    have h2 := Nat.mul_le_mul_right 18446744073709551616 h1
    rw [Nat.add_mul, Nat.mul_comm B] at h2
    omega
  refine ⟨?_, g2.symm, ?_⟩
  · rw [g1, Nat.mul_add_mod_self_right, Nat.mod_eq_of_lt hq]
  · rw [g1, Nat.mul_comm, Nat.mul_add_div (by decide), Nat.div_eq_of_lt hq, Nat.add_zero]
theorem belowDN (w : World) (n : Nat) : Below w.heap.size w (w.drewN n) := ⟨rfl, rfl, rfl, Nat.le_refl _, fun _ _ => rfl⟩
def Drawn (v : Value) (w : World) (e : Ending) (w' : World) : Prop := e = .returned v ∧ ∃ n, w' = w.drewN n
set_option maxRecDepth 100000 in
set_option maxHeartbeats 2000000 in
theorem div_any (a b : Int) (ha1 : -9223372036854775808 ≤ a) (ha2 : a ≤ 9223372036854775807) (hb1 : -9223372036854775808 ≤ b) (hb2 : b ≤ 9223372036854775807) (w : World) : Calls Try.prog 19 #[.int .i64 a, .int .i64 b] w (Drawn (.int .i64 (divF a b)) w) := by
  by_cases h0 : b = 0
  · subst h0
    by_cases c1 : 0 < a
    · have HV := Lib.hid (show divF a 0 = 9223372036854775807 by unfold divF; rw [if_pos rfl, if_pos c1])
      go_enter Try.func19, Try.ntmps19
      go_wp2_with fail
      go_ret
      exact ⟨ret_int HV.out.symm, 0, rfl⟩
    · by_cases c2 : a < 0
      · have HV := Lib.hid (show divF a 0 = -9223372036854775808 by unfold divF; rw [if_pos rfl, if_neg c1, if_pos c2])
        go_enter Try.func19, Try.ntmps19
        go_wp2_with fail
        go_ret
        exact ⟨ret_int HV.out.symm, 0, rfl⟩
      · have HV := Lib.hid (show divF a 0 = 0 by unfold divF; rw [if_pos rfl, if_neg c1, if_neg c2])
        go_enter Try.func19, Try.ntmps19
        go_wp2_with fail
        go_ret
        exact ⟨ret_int HV.out.symm, 0, rfl⟩
  · have ht := divF_told a b h0
    have b0 : (b == 0) = false := by simpa using h0
    have sa := size_any a ha1 ha2
    have sb := size_any b hb1 hb2
    have hA : a.natAbs ≤ 9223372036854775808 := by omega
    have hB : 1 ≤ b.natAbs := by omega
    have hB2 : b.natAbs ≤ 9223372036854775808 := by omega
    generalize a.natAbs = A at *
    generalize b.natAbs = B at *
    obtain ⟨g1, g2, g3⟩ := quo_args A B hA hB hB2
    obtain ⟨hi, hhi⟩ : ∃ q, q = A / 4294967296 := ⟨_, rfl⟩
    obtain ⟨l, hl⟩ : ∃ q, q = A * 4294967296 % 18446744073709551616 := ⟨_, rfl⟩
    obtain ⟨hr, hhr⟩ : ∃ q, q = hi % B := ⟨_, rfl⟩
    obtain ⟨hq, hhq⟩ : ∃ q, q = hi / B := ⟨_, rfl⟩
    rw [← hhi, ← hl, ← hhr] at g1 g2
    rw [← hhi, ← hhq] at g3
    have hlt : hr < B := by rw [hhr]; exact Nat.mod_lt _ (by omega)
    have d1 := div64_any hr l B hlt (by omega) (by omega)
    rw [g1, g2] at d1
    obtain ⟨Q, hQ⟩ : ∃ Q, Q = A * 4294967296 / B % 18446744073709551616 := ⟨_, rfl⟩
    obtain ⟨R, hR⟩ : ∃ R, R = A * 4294967296 % B := ⟨_, rfl⟩
    rw [← hQ, ← hR] at d1
    rw [← hQ, ← hR, ← g3] at ht
    have e1 : (A : Int) / 4294967296 = (hi : Int) := by rw [hhi]; omega
    have e2 : IntKind.u64.wrap ((A : Int) * 4294967296) = (l : Int) := by rw [IntKind.wrap_u64, hl]; omega
    have e3 : (hi : Int) % (B : Int) = (hr : Int) := by rw [natMod, ← hhr]
    have e4 : IntKind.u64.wrap ((hi : Int) / (B : Int)) = (hq : Int) := by rw [hhq]; exact wrapN' hi B (by omega)
    have e5 : ((R : Int) != 0) = decide (R ≠ 0) := by rw [Bool.eq_iff_iff, bne_iff_ne, decide_eq_true_iff]; omega
    have hb0 : hi < 18446744073709551616 := by omega
    have hb3 : Q < 18446744073709551616 := by rw [hQ]; exact Nat.mod_lt _ (by decide)
    have D1 := Lib.hid d1
    have T := Lib.hid ht
    have SA := Lib.hid sa
    have SB := Lib.hid sb
    clear h0 g1 g2 g3 hhi hl hhr hhq hQ hR d1 ht sa sb
    have T1 := fun w => told1_any hq Q (decide (R ≠ 0)) hb3 w
    have T2 := fun w => told2_any hq Q (decide (R ≠ 0)) hb3 w
    cases hs : sameB a b
    all_goals
      have HS := Lib.hid hs
      have HT1 := Lib.hid T1
      have HT2 := Lib.hid T2
      clear hs T1 T2
      go_enter Try.func19, Try.ntmps19
      go_wp2_with fail
      refine (signs_any a b _).mono ?_
      rintro e w1 ⟨rfl, rfl⟩
      rw [HS.out]
      unfold toldV
      simp only [if_true, if_false, Bool.false_eq_true]
      go_wp2_with fail
      refine (SA.out _).mono ?_
      rintro e w1 ⟨rfl, rfl⟩
      go_wp2_with fail
      refine (SB.out _).mono ?_
      rintro e w1 ⟨rfl, rfl⟩
      go_wp2_with fail
      refine (D1.out _).mono ?_
      rintro e w1 ⟨rfl, n, rfl⟩
      go_wp2_with fail
      rw [show (!decide (R = 0)) = decide (R ≠ 0) by simp]
      (first | (with_reducible refine (HT1.out _).mono ?_) | (with_reducible refine (HT2.out _).mono ?_))
      rintro e w1 ⟨rfl, rfl⟩
      have HT := T.out
      rw [HS.out] at HT
      rw [HT]
      clear HT
      go_wp2_with fail
      go_ret
      exact ⟨rfl, n, rfl⟩
end Go.Proofs.Ytnfbeldiideonaa.FixO
