/- Where rays meet boxes, triangles and balls: what layer 13 reckons. Plain. -/
import Derived.Test.YtdaokkgenfpmhaaVe
import Derived.Test.YtdaokkgenfpmhaaMeshR
set_option linter.unusedVariables false
set_option linter.unusedSimpArgs false
namespace Go.Proofs.Ytdaokkgenfpmhaa.HitM
open Go FixM VecW VecV VecU MeshM MeshP

structure Ry where
  o : V3
  d : V3
def Ry.ok (r : Ry) : Prop := r.o.ok ∧ r.d.ok
structure Ht where
  t : Int
  i : Int
  u : Int
  v : Int
abbrev rayV (r : Ry) : Value := .agg #[.int .i64 r.o.x, .int .i64 r.o.y, .int .i64 r.o.z, .int .i64 r.d.x, .int .i64 r.d.y, .int .i64 r.d.z]
abbrev hitV (h : Ht) : Value := .agg #[.int .i64 h.t, .int .i64 h.i, .int .i64 h.u, .int .i64 h.v]
def Bx.ok (b : Bx) : Prop := b.lo.ok ∧ b.hi.ok
def ONE : Int := 4294967296
def MOST : Int := 9223372036854775807
theorem ok_map2sub (a b : V3) : (map2 subF a b).ok := ⟨clamp_in _, clamp_in _, clamp_in _⟩
theorem ok_map2add (a b : V3) : (map2 addF a b).ok := ⟨clamp_in _, clamp_in _, clamp_in _⟩
theorem ok_neg (a : V3) : (map1 negF a).ok := ⟨clamp_in _, clamp_in _, clamp_in _⟩
theorem ok_scale (a : V3) (s : Int) : (map1 (fun x => mulF x s) a).ok := ⟨clamp_in _, clamp_in _, clamp_in _⟩
theorem in_sqrt {a : Int} (h : In a) : In (sqrtF a) := by
  have := sqrtF_in a h.2
  unfold In; omega

/-! a side of a box -/
def loF (o d lo hi : Int) : Int := if d < 0 then divF (subF hi o) d else divF (subF lo o) d
def hiF (o d lo hi : Int) : Int := if d < 0 then divF (subF lo o) d else divF (subF hi o) d
def maxI (a b : Int) : Int := if b > a then b else a
def minI (a b : Int) : Int := if b < a then b else a
/-- the way's part within one side: none where it passes by -/
def sideF (o d lo hi : Int) (s : Int × Int) : Option (Int × Int) :=
  if d = 0 then (if lo ≤ o ∧ o ≤ hi then some s else none) else some (maxI s.1 (loF o d lo hi), minI s.2 (hiF o d lo hi))
def boxH (r : Ry) (b : Bx) : Option Int :=
  (sideF r.o.x r.d.x b.lo.x b.hi.x (0, MOST)).bind fun s => (sideF r.o.y r.d.y b.lo.y b.hi.y s).bind fun s => (sideF r.o.z r.d.z b.lo.z b.hi.z s).bind fun s => if s.1 ≤ s.2 then some s.1 else none
def boxR (x : Option Int) : Value := .tuple #[.int .i64 (x.getD 0), .bool x.isSome]
/-! a triangle -/
def triN (r : Ry) (a b c : V3) : Int := dotF (map2 subF b a) (crossF r.d (map2 subF c a))
def triU (r : Ry) (a b c : V3) : Int := divF (dotF (map2 subF r.o a) (crossF r.d (map2 subF c a))) (triN r a b c)
def triQ (r : Ry) (a b : V3) : V3 := crossF (map2 subF r.o a) (map2 subF b a)
def triV (r : Ry) (a b c : V3) : Int := divF (dotF r.d (triQ r a b)) (triN r a b c)
def triT (r : Ry) (a b c : V3) : Int := divF (dotF (map2 subF c a) (triQ r a b)) (triN r a b c)
def triH (r : Ry) (a b c : V3) : Option Ht :=
  if triN r a b c = 0 then none
  else if triU r a b c < 0 ∨ ONE < triU r a b c then none
  else if triV r a b c < 0 ∨ ONE < addF (triU r a b c) (triV r a b c) then none
  else if triT r a b c < 0 then none
  else some ⟨triT r a b c, 0, triU r a b c, triV r a b c⟩
def ht0 : Ht := ⟨0, 0, 0, 0⟩
def htN : Ht := ⟨0, -1, 0, 0⟩
def triR (x : Option Ht) : Value := .tuple #[hitV (x.getD ht0), .bool x.isSome]
/-! a ball -/
def ballA (r : Ry) : Int := dotF r.d r.d
def ballHh (r : Ry) (b : B4) : Int := dotF (map2 subF r.o b.c) r.d
def ballC (r : Ry) (b : B4) : Int := subF (dotF (map2 subF r.o b.c) (map2 subF r.o b.c)) (mulF b.r b.r)
def ballW (r : Ry) (b : B4) : Int := subF (mulF (ballHh r b) (ballHh r b)) (mulF (ballA r) (ballC r b))
def ballX (r : Ry) (b : B4) : Int := divF (subF (negF (ballHh r b)) (sqrtF (ballW r b))) (ballA r)
def ballY (r : Ry) (b : B4) : Int := divF (addF (negF (ballHh r b)) (sqrtF (ballW r b))) (ballA r)
def ballH (r : Ry) (b : B4) : Option (Int × Int) := if ballA r = 0 ∨ ballW r b < 0 then none else some (ballX r b, ballY r b)
def ballR (x : Option (Int × Int)) : Value := .tuple #[.int .i64 (x.getD (0, 0)).1, .int .i64 (x.getD (0, 0)).2, .bool x.isSome]
end Go.Proofs.Ytdaokkgenfpmhaa.HitM
