/- Two arrays of four bytes by value. -/
import Derived.Test.YtnfbeldiideonaaLightP
import Derived.Test.YtnfbeldiideonaaNum
import Derived.ChangeKeysEq
set_option linter.unusedVariables false
set_option linter.unusedSimpArgs false
namespace Go.Proofs.Ytnfbeldiideonaa.ArrF
open Go.RowKit

theorem u8_info : ∃ i, Try.prog.info? 5 = some i := by
  cases hq : Try.prog.info? 5 with
  | none =>
    have h : (Try.prog.info? 5).isSome = true := by kernel_rfl
    rw [hq] at h; cases h
  | some i => exact ⟨i, rfl⟩
theorem eq4 (a b c d e f g h : Int) (w : World) : (Op.equalIn 10000 24 (.agg #[.int .u8 a, .int .u8 b, .int .u8 c, .int .u8 d]) (.agg #[.int .u8 e, .int .u8 f, .int .u8 g, .int .u8 h])).run Try.prog w = .ok (a == e && b == f && c == g && d == h) w := by
  obtain ⟨i, hi⟩ := u8_info
  have hc : Try.prog.cellsOf 5 = 1 := by kernel_rfl
  have hagg : (isAgg 5).run Try.prog w = .ok false w := by
    unfold isAgg
    rw [Sem.run_bind, run_underlying Try.underlying5 w]
    rfl
  have h1 := run_equalIn_array (P := Try.prog) w 9999 #[.int .u8 a, .int .u8 b, .int .u8 c, .int .u8 d] #[.int .u8 e, .int .u8 f, .int .u8 g, .int .u8 h] Try.underlying24 hi
  rw [hc] at h1
  refine h1.trans ?_
  have hr : List.range 4 = [0, 1, 2, 3] := rfl
  rw [hr]
  simp only [Op.eqItems, Sem.run_bind, part, hagg, Result.andThen_ok, Bool.false_eq_true, if_false]
  simp [Sem.run_bind, run_equalIn_int w _ 5 .u8 .u8 _ _ Try.underlying5]
  by_cases e1 : a = e <;> by_cases e2 : b = f <;> by_cases e3 : c = g <;> by_cases e4 : d = h <;> simp [*]
end Go.Proofs.Ytnfbeldiideonaa.ArrF
