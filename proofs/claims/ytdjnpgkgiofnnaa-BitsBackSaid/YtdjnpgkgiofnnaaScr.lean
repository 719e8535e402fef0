/- A script that lies in the world. -/
import Derived.Test.YtdjnpgkgiofnnaaBase
set_option linter.unusedVariables false
set_option linter.unusedSimpArgs false
namespace Go.Proofs.Ytdjnpgkgiofnnaa.Bits9
open Go.RowKit

/-- a call of a script -/
structure Cmd where
  kind : Int
  n : Nat
  k : Int
structure Cmd.ok (c : Cmd) : Prop where
  k1 : -9223372036854775808 ≤ c.kind
  k2 : c.kind ≤ 9223372036854775807
  n1 : c.n ≤ 4294967295
  k3 : -9223372036854775808 ≤ c.k
  k4 : c.k ≤ 9223372036854775807
/-- a script that lies in the world -/
structure Script (w : World) (v : Value) (l : List Cmd) : Prop where
  shape : ∃ a cap, v = .slice a l.length cap ∧ l.length ≤ 9223372036854775807
  fits : ∀ c ∈ l, c.ok
  cells : l ≠ [] → ∃ b off cap, v = .slice (some ⟨b, off, none⟩) l.length cap ∧ b < w.heap.size ∧ ∀ i (h : i < l.length), w.cell? ⟨b, off + i * 3, none⟩ = some (.int .i64 l[i].kind) ∧ w.cell? ⟨b, off + i * 3 + 1, none⟩ = some (.int .u32 (l[i].n : Int)) ∧ w.cell? ⟨b, off + i * 3 + 2, none⟩ = some (.int .i64 l[i].k)

end Go.Proofs.Ytdjnpgkgiofnnaa.Bits9
