/- A region that draws its order, whose calls make memory: each contract, met in whatever world of the class 'what was there stands as it stood'. No program is named here. -/
import Derived.WalkKit
import Derived.Lib.QuietBelow
import Derived.BigQuiet
set_option linter.unusedVariables false
set_option linter.unusedSimpArgs false
namespace Go.Proofs.Ytcchekkedgajpaa.Qb
open Go.RowKit Go.Sort

variable {P : Program}
theorem qb {f : FuncId} {args : Array Value} {W : World} {v : Value} (h : ∀ w, Below W.heap.size W w → Calls P f args w (fun e w' => e = .returned v ∧ Below w.heap.size w w')) (d : Nat) (os : Array Obj) :
    Calls P f args (grow (redrawn W d) os) fun e w'' => e = .returned v ∧ ∃ p : Regrown, w'' = grow (redrawn W p.d) p.os :=
  (h _ (below_regrown W d os)).mono fun _ _ h => ⟨h.1, regrown_of_below ((below_regrown W d os).trans (h.2.mono (below_regrown W d os).size))⟩
theorem qs {f : FuncId} {args : Array Value} {W : World} {v : Value} (h : ∀ w, Calls P f args w (fun e w' => e = .returned v ∧ w = w')) (d : Nat) (os : Array Obj) :
    Calls P f args (grow (redrawn W d) os) fun e w'' => e = .returned v ∧ ∃ p : Regrown, w'' = grow (redrawn W p.d) p.os :=
  (h _).mono fun _ _ h => ⟨h.1, regrown_of_below (by rw [← h.2]; exact below_regrown W d os)⟩
theorem heap_regrown {W : World} {g : Nat} {o : Obj} (h : W.heap[g]? = some o) (d : Nat) (os : Array Obj) : (grow (redrawn W d) os).heap[g]? = some o := by
  rw [(below_regrown W d os).block g (by
    rcases Nat.lt_or_ge g W.heap.size with h' | h'
    · exact h'
    · rw [Array.getElem?_eq_none h'] at h; simp at h)]; exact h
end Go.Proofs.Ytcchekkedgajpaa.Qb
