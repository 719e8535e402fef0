/- Two arrays of numbers by value: are they the same? -/
import Derived.Test.YtmdhekpfkligiaaNum
import Derived.ChangeKeysEq
set_option linter.unusedVariables false
set_option linter.unusedSimpArgs false
namespace Go.Proofs.Ytmdhekpfkligiaa.Num
open Go.RowKit

theorem run_part_arr {P : Program} (E : TypeId) (n : Nat) (k : IntKind) (f : Nat → Nat) (hE : P.underlying E = some (.int k)) (i : Nat) (hi : i < n) (w : World) : (part E (arr k n f) (i * 1)).run P w = .ok (.int k (f i : Int)) w := by
  have hA := arr_at k n f i hi
  have hagg : (isAgg E).run P w = .ok false w := by
    unfold isAgg
    rw [Sem.run_bind, run_underlying hE w]
    rfl
  simp [part, Sem.run_bind, hagg, hA]
theorem run_eqItems_arr {P : Program} (d : Nat) (E : TypeId) (n : Nat) (k : IntKind) (f g : Nat → Nat) (hE : P.underlying E = some (.int k)) (w : World) : ∀ is : List Nat, (∀ i ∈ is, i < n) →
    (Op.eqItems (d + 1) E 1 (arr k n f) (arr k n g) is).run P w = .ok (is.all fun i => decide (f i = g i)) w := by
  intro is
  induction is with
  | nil => intro _; simp [Op.eqItems]
  | cons i is ih =>
    intro h
    have hi := h i (by simp)
    rw [Op.eqItems, Sem.run_bind, run_part_arr E n k f hE i hi w]
    simp only [Result.andThen_ok, Sem.run_bind, run_part_arr E n k g hE i hi w, run_equalIn_int w d E k k _ _ hE]
    by_cases e : f i = g i
    · have e2 : (((f i : Nat) : Int) == ((g i : Nat) : Int)) = true := by simp [e]
      simp [e, ih (fun j hj => h j (by simp [hj]))]
    · have e2 : (((f i : Nat) : Int) == ((g i : Nat) : Int)) = false := by simp; omega
      simp [e, e2]
/-- 'a == b' of two arrays of numbers -/
theorem run_equalIn_arr {P : Program} (T E : TypeId) (n : Nat) (k : IntKind) (f g : Nat → Nat) (hT : P.underlying T = some (.array n E)) (hE : P.underlying E = some (.int k)) (i : TypeInfo) (hi : P.info? E = some i) (hc : P.cellsOf E = 1) (w : World) :
    (Op.equalIn 10000 T (.agg (arr k n f)) (.agg (arr k n g))).run P w = .ok ((List.range n).all fun i => decide (f i = g i)) w := by
  have h := run_equalIn_array (P := P) w 9999 (arr k n f) (arr k n g) hT hi
  rw [hc] at h
  exact h.trans (run_eqItems_arr 9998 E n k f g hE w _ (fun j hj => by simpa using hj))
end Go.Proofs.Ytmdhekpfkligiaa.Num
