/- Meshes as lists: what layer 12 checks and reckons. Plain. -/
import Derived.Test.YtdmmjmdnljhooaaVecA
set_option linter.unusedVariables false
set_option linter.unusedSimpArgs false
namespace Go.Proofs.Ytdmmjmdnljhooaa.MeshM
open FixM VecW

structure B4 where
  c : V3
  r : Int
structure Msh where
  ps : List V3
  ts : List V3
  bs : List B4
structure Msh.ok (m : Msh) : Prop where
  ps : ∀ p ∈ m.ps, p.ok
  ts : ∀ p ∈ m.ts, p.ok
  bs : ∀ b ∈ m.bs, b.c.ok ∧ In b.r
def nearI (x : Int) : Bool := decide (-4503599627370496 ≤ x) && decide (x ≤ 4503599627370496)
def nearV (v : V3) : Bool := nearI v.x && nearI v.y && nearI v.z
def placeI (n : Nat) (t : Int) : Bool := decide (0 ≤ t) && decide (t < (n : Int))
def hasF (n : Nat) (t : V3) : Bool := placeI n t.x && placeI n t.y && placeI n t.z
def ballF (b : B4) : Bool := nearV b.c && decide (1 ≤ b.r) && decide (b.r ≤ 4503599627370496)
def rightF (m : Msh) : Bool := m.ps.all nearV && m.ts.all (hasF m.ps.length) && m.bs.all ballF
def tooF (m : Msh) : Prop := 4096 < m.ps.length ∨ 4096 < m.ts.length + m.bs.length
instance (m : Msh) : Decidable (tooF m) := by unfold tooF; infer_instance
def checkF (m : Msh) : Int := if tooF m then 14 else if rightF m then 0 else 14
end Go.Proofs.Ytdmmjmdnljhooaa.MeshM
