/- Hits by value. -/
import Derived.Test.YtdaokkgenfpmhaaMeshEq
import Derived.Test.YtdaokkgenfpmhaaHitM
set_option linter.unusedVariables false
set_option linter.unusedSimpArgs false
namespace Go.Proofs.Ytdaokkgenfpmhaa.HitEq
open Go.RowKit FixM Base Num VecW VecV MeshM Rec MeshA MeshP MeshEq HitM
theorem agg_int (w : World) : (isAgg 3).run Try.prog w = .ok false w := by
  unfold isAgg
  rw [Sem.run_bind, run_underlying Try.underlying3 w]
  rfl
theorem eq_hit (t i u v t' i' u' v' : Int) (w : World) : (Op.equalIn 10000 38 (.agg #[.int .i64 t, .int .i64 i, .int .i64 u, .int .i64 v]) (.agg #[.int .i64 t', .int .i64 i', .int .i64 u', .int .i64 v'])).run Try.prog w = .ok (t == t' && i == i' && u == u' && v == v') w := by
  rw [run_equalIn_agg w 9999 _ _ _ (by kernel_rfl) (by kernel_rfl)]
  simp only [Program.fieldsOf, Try.underlying38]
  simp only [Op.eqFields, Sem.run_bind, part, agg_int, agg_i64, Result.andThen_ok, Bool.false_eq_true, if_false, if_true]
  simp [Sem.run_bind, run_equalIn_int w _ 2 .i64 .i64 _ _ Try.underlying2, run_equalIn_int w _ 3 .i64 .i64 _ _ Try.underlying3]
  by_cases e1 : t = t' <;> by_cases e2 : i = i' <;> by_cases e3 : u = u' <;> by_cases e4 : v = v' <;> simp [*]
end Go.Proofs.Ytdaokkgenfpmhaa.HitEq
