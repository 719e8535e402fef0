/- What layer 21 answers: rays from the eye and from surfaces. Plain arithmetic. -/
import Derived.Test.YtnfbeldiideonaaLightQ
set_option linter.unusedVariables false
set_option linter.unusedSimpArgs false
namespace Go.Proofs.Ytnfbeldiideonaa.LightK
open FixM FixP VecW VecV VecU

def scaleF (s : Int) (v : V3) : V3 := map1 (fun x => mulF x s) v
def axisF (nx : Int) : V3 := if (if nx < 0 then negF nx else nx) ≤ 2147483648 then ⟨4294967296, 0, 0⟩ else ⟨0, 4294967296, 0⟩
def roundF (n : V3) (a b : Int) : V3 :=
  let x := mulF 26986075409 a
  let t := unitF (crossF (axisF n.x) n)
  let v := crossF n t
  unitF (map2 addF (map2 addF (scaleF (mulF (sqrtF b) (cosF x)) t) (scaleF (mulF (sqrtF b) (sinF x)) v)) (scaleF (sqrtF (subF 4294967296 b)) n))
def bounceF (k : Int) (d n : V3) (a b : Int) : V3 := if k = 2 then bendF d n else roundF n a b
theorem axisF_ref {x : Int} (hx : In x) : axisF x = if x > 2147483648 ∨ x < -2147483648 then ⟨0, 4294967296, 0⟩ else ⟨4294967296, 0, 0⟩ := by
  unfold In at hx
  unfold axisF negF clamp
  by_cases h : x > 2147483648 ∨ x < -2147483648
  · rw [if_pos h, if_neg]; split <;> (try split) <;> (try split) <;> omega
  · rw [if_neg h, if_pos]; split <;> (try split) <;> (try split) <;> omega
theorem ok_axis (x : Int) : (axisF x).ok := by
  have h : ∀ p : Prop, [Decidable p] → (if p then (⟨4294967296, 0, 0⟩ : V3) else ⟨0, 4294967296, 0⟩).ok := fun p _ => by
    split <;> (unfold V3.ok In; refine ⟨⟨?_, ?_⟩, ⟨?_, ?_⟩, ⟨?_, ?_⟩⟩ <;> decide)
  exact h _
theorem ok_scale (s : Int) (v : V3) : (scaleF s v).ok := ok_map1 (fun x => in_mul _ _) v
theorem ok_round (n : V3) (a b : Int) : (roundF n a b).ok := ok_unit _
theorem ok_bounce (k : Int) (d n : V3) (a b : Int) : (bounceF k d n a b).ok := by unfold bounceF; split; exact ok_bend _ _; exact ok_round _ _ _
/-- the ray through a place of a pixel -/
def cameraF (w h : Int) (eye at_ up : V3) (wide x y dx dy : Int) : V3 :=
  let W := ofF (max w 1)
  let H := ofF (max h 1)
  let f := unitF (map2 subF at_ eye)
  let r := unitF (crossF f up)
  let u := crossF r f
  let a := divF (addF (ofF x) dx) W
  let b := divF (addF (ofF y) dy) H
  let px := mulF (subF (addF a a) 4294967296) wide
  let py := mulF (subF 4294967296 (addF b b)) (divF (mulF wide H) W)
  unitF (map2 addF f (map2 addF (scaleF px r) (scaleF py u)))
end Go.Proofs.Ytnfbeldiideonaa.LightK
