/- Points, triangles, balls and boxes by value. -/
import Derived.Test.YtdaokkgenfpmhaaMeshP
import Derived.ChangeKeysEq
import Derived.Laws.StructEq
set_option linter.unusedVariables false
set_option linter.unusedSimpArgs false
namespace Go.Proofs.Ytdaokkgenfpmhaa.MeshEq
open Go.RowKit FixM Base Num VecW VecV MeshM Rec MeshA MeshP

theorem eq_vec (n : Nat) (a b : V3) (w : World) : (Op.equalIn (n + 2) 23 (.agg #[.int .i64 a.x, .int .i64 a.y, .int .i64 a.z]) (.agg #[.int .i64 b.x, .int .i64 b.y, .int .i64 b.z])).run Try.prog w = .ok (a.x == b.x && a.y == b.y && a.z == b.z) w := by
  rw [run_equalIn_agg w (n + 1) _ _ _ (by kernel_rfl) (by kernel_rfl)]
  have hagg : (isAgg 2).run Try.prog w = .ok false w := by
    unfold isAgg
    rw [Sem.run_bind, run_underlying Try.underlying2 w]
    rfl
  simp only [Program.fieldsOf, Try.underlying23]
  simp only [Op.eqFields, Sem.run_bind, part, hagg, Result.andThen_ok, Bool.false_eq_true, if_false]
  simp [Sem.run_bind, run_equalIn_int w _ 2 .i64 .i64 _ _ Try.underlying2]
  by_cases e1 : a.x = b.x <;> by_cases e2 : a.y = b.y <;> by_cases e3 : a.z = b.z <;> simp [*]
theorem int_info : ∃ i, Try.prog.info? 3 = some i := by
  cases hq : Try.prog.info? 3 with
  | none =>
    have h : (Try.prog.info? 3).isSome = true := by kernel_rfl
    rw [hq] at h; cases h
  | some i => exact ⟨i, rfl⟩
theorem eq_tri (a b : V3) (w : World) : (Op.equalIn 10000 68 (.agg #[.int .i64 a.x, .int .i64 a.y, .int .i64 a.z]) (.agg #[.int .i64 b.x, .int .i64 b.y, .int .i64 b.z])).run Try.prog w = .ok (a.x == b.x && a.y == b.y && a.z == b.z) w := by
  obtain ⟨i, hi⟩ := int_info
  have hc : Try.prog.cellsOf 3 = 1 := by kernel_rfl
  have hagg : (isAgg 3).run Try.prog w = .ok false w := by
    unfold isAgg
    rw [Sem.run_bind, run_underlying Try.underlying3 w]
    rfl
  have h1 := run_equalIn_array (P := Try.prog) w 9999 #[.int .i64 a.x, .int .i64 a.y, .int .i64 a.z] #[.int .i64 b.x, .int .i64 b.y, .int .i64 b.z] Try.underlying68 hi
  rw [hc] at h1
  refine h1.trans ?_
  have hr : List.range 3 = [0, 1, 2] := rfl
  rw [hr]
  simp only [Op.eqItems, Sem.run_bind, part, hagg, Result.andThen_ok, Bool.false_eq_true, if_false]
  simp [Sem.run_bind, run_equalIn_int w _ 3 .i64 .i64 _ _ Try.underlying3]
  by_cases e1 : a.x = b.x <;> by_cases e2 : a.y = b.y <;> by_cases e3 : a.z = b.z <;> simp [*]
theorem agg_vec (w : World) : (isAgg 23).run Try.prog w = .ok true w := by
  unfold isAgg
  rw [Sem.run_bind, run_underlying Try.underlying23 w]
  rfl
theorem agg_i64 (w : World) : (isAgg 2).run Try.prog w = .ok false w := by
  unfold isAgg
  rw [Sem.run_bind, run_underlying Try.underlying2 w]
  rfl
theorem size_vec (w : World) : (sizeOf 23).run Try.prog w = .ok 3 w := by kernel_rfl
theorem eq_ball (a b : B4) (w : World) : (Op.equalIn 10000 71 (.agg #[.int .i64 a.c.x, .int .i64 a.c.y, .int .i64 a.c.z, .int .i64 a.r]) (.agg #[.int .i64 b.c.x, .int .i64 b.c.y, .int .i64 b.c.z, .int .i64 b.r])).run Try.prog w = .ok ((a.c.x == b.c.x && a.c.y == b.c.y && a.c.z == b.c.z) && a.r == b.r) w := by
  rw [run_equalIn_agg w 9999 _ _ _ (by kernel_rfl) (by kernel_rfl)]
  simp only [Program.fieldsOf, Try.underlying71]
  simp only [Op.eqFields, Sem.run_bind, part, agg_vec, agg_i64, size_vec, Result.andThen_ok, Bool.false_eq_true, if_false, if_true]
  simp [Sem.run_bind, run_equalIn_int w _ 2 .i64 .i64 _ _ Try.underlying2, eq_vec 9997 a.c b.c w]
  by_cases e1 : a.c.x = b.c.x <;> by_cases e2 : a.c.y = b.c.y <;> by_cases e3 : a.c.z = b.c.z <;> by_cases e4 : a.r = b.r <;> simp [*]
theorem eq_box (a b : Bx) (w : World) : (Op.equalIn 10000 56 (.agg #[.int .i64 a.lo.x, .int .i64 a.lo.y, .int .i64 a.lo.z, .int .i64 a.hi.x, .int .i64 a.hi.y, .int .i64 a.hi.z]) (.agg #[.int .i64 b.lo.x, .int .i64 b.lo.y, .int .i64 b.lo.z, .int .i64 b.hi.x, .int .i64 b.hi.y, .int .i64 b.hi.z])).run Try.prog w = .ok ((a.lo.x == b.lo.x && a.lo.y == b.lo.y && a.lo.z == b.lo.z) && (a.hi.x == b.hi.x && a.hi.y == b.hi.y && a.hi.z == b.hi.z)) w := by
  rw [run_equalIn_agg w 9999 _ _ _ (by kernel_rfl) (by kernel_rfl)]
  simp only [Program.fieldsOf, Try.underlying56]
  simp only [Op.eqFields, Sem.run_bind, part, agg_vec, agg_i64, size_vec, Result.andThen_ok, Bool.false_eq_true, if_false, if_true]
  simp [Sem.run_bind, eq_vec 9997 a.lo b.lo w, eq_vec 9997 a.hi b.hi w]
  by_cases e1 : a.lo.x = b.lo.x <;> by_cases e2 : a.lo.y = b.lo.y <;> by_cases e3 : a.lo.z = b.lo.z <;> by_cases e4 : a.hi.x = b.hi.x <;> by_cases e5 : a.hi.y = b.hi.y <;> by_cases e6 : a.hi.z = b.hi.z <;> simp [*]
end Go.Proofs.Ytdaokkgenfpmhaa.MeshEq
