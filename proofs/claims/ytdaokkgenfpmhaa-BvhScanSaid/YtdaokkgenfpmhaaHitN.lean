/- Which shape of a mesh a ray meets: what layer 13 reckons of meshes. Plain. -/
import Derived.Test.YtdaokkgenfpmhaaHitX
set_option linter.unusedVariables false
set_option linter.unusedSimpArgs false
namespace Go.Proofs.Ytdaokkgenfpmhaa.HitN
open Go FixM VecW VecV VecU MeshM MeshP HitM

def cornersF (m : Msh) (i : Int) : Option (V3 × V3 × V3) :=
  if i < 0 ∨ (m.ts.length : Int) ≤ i then none
  else if hasF m.ps.length (m.ts.getD i.toNat v0) then some (ptF m (m.ts.getD i.toNat v0).x, ptF m (m.ts.getD i.toNat v0).y, ptF m (m.ts.getD i.toNat v0).z) else none
def cornersR (x : Option (V3 × V3 × V3)) : Value := .tuple #[vecV (x.getD (v0, v0, v0)).1, vecV (x.getD (v0, v0, v0)).2.1, vecV (x.getD (v0, v0, v0)).2.2, .bool x.isSome]
def ballAt (m : Msh) (i : Int) : B4 := m.bs.getD (i - (m.ts.length : Int)).toNat ⟨v0, 0⟩
def pickF (i near least x y : Int) : Option Ht :=
  if 0 ≤ x ∧ least ≤ maxI x near then some ⟨maxI x near, i, 0, 0⟩
  else if 0 ≤ y ∧ least ≤ maxI y near then some ⟨maxI y near, i, 0, 0⟩ else none
def ballShapeF (m : Msh) (i : Int) (r : Ry) (least : Int) : Option Ht :=
  (boxH r (boxF m i)).bind fun near => (ballH r (ballAt m i)).bind fun p => pickF i near least p.1 p.2
def triShapeF (m : Msh) (i : Int) (r : Ry) (least : Int) : Option Ht :=
  (cornersF m i).bind fun c => (boxH r (boxF m i)).bind fun near => (triH r c.1 c.2.1 c.2.2).bind fun h => if maxI h.t near < least then none else some ⟨maxI h.t near, i, h.u, h.v⟩
def shapeF (m : Msh) (i : Int) (r : Ry) (least : Int) : Option Ht :=
  if i < 0 ∨ (m.ts.length : Int) + (m.bs.length : Int) ≤ i then none
  else if (m.ts.length : Int) ≤ i then ballShapeF m i r least
  else triShapeF m i r least
def shapeR (x : Option Ht) : Value := .tuple #[hitV (x.getD htN), .bool x.isSome]
def scanStep (m : Msh) (r : Ry) (least : Int) (best : Ht) (i : Nat) : Ht :=
  match shapeF m (i : Int) r least with
  | none => best
  | some h => if best.i < 0 ∨ h.t < best.t then h else best
def scanF (m : Msh) (r : Ry) (least : Int) : Ht := (List.range (m.ts.length + m.bs.length)).foldl (scanStep m r least) htN
def turnF (n d : V3) : V3 := if 0 < dotF n d then map1 negF n else n
def normalF (m : Msh) (h : Ht) (r : Ry) : V3 :=
  if h.i < 0 ∨ (m.ts.length : Int) + (m.bs.length : Int) ≤ h.i then v0
  else if h.i < (m.ts.length : Int) then
    match cornersF m h.i with
    | none => v0
    | some c => turnF (unitF (crossF (map2 subF c.2.1 c.1) (map2 subF c.2.2 c.1))) r.d
  else turnF (unitF (map2 subF (map2 addF r.o (map1 (fun x => mulF x h.t) r.d)) (ballAt m h.i).c)) r.d
theorem shape_i {m : Msh} {i : Int} {r : Ry} {least : Int} {h : Ht} (e : shapeF m i r least = some h) : h.i = i ∧ 0 ≤ i ∧ i < (m.ts.length : Int) + (m.bs.length : Int) ∧ least ≤ h.t := by
  unfold shapeF at e
  split at e
  · cases e
  rename_i hi
  split at e
  · unfold ballShapeF at e
    cases h1 : boxH r (boxF m i) with
    | none => rw [h1] at e; cases e
    | some near =>
      rw [h1, Option.bind_some] at e
      cases h2 : ballH r (ballAt m i) with
      | none => rw [h2] at e; cases e
      | some p =>
        rw [h2, Option.bind_some] at e
        unfold pickF at e
        split at e
        · rename_i hh; cases e; exact ⟨rfl, by omega, by omega, hh.2⟩
        · split at e
          · rename_i hh; cases e; exact ⟨rfl, by omega, by omega, hh.2⟩
          · cases e
  · unfold triShapeF at e
    cases h0 : cornersF m i with
    | none => rw [h0] at e; cases e
    | some c =>
      rw [h0, Option.bind_some] at e
      cases h1 : boxH r (boxF m i) with
      | none => rw [h1] at e; cases e
      | some near =>
        rw [h1, Option.bind_some] at e
        cases h2 : triH r c.1 c.2.1 c.2.2 with
        | none => rw [h2] at e; cases e
        | some h =>
          rw [h2, Option.bind_some] at e
          split at e
          · cases e
          · cases e; exact ⟨rfl, by omega, by omega, by dsimp only; omega⟩
end Go.Proofs.Ytdaokkgenfpmhaa.HitN
