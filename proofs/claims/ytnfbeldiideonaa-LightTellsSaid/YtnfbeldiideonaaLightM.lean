/- What layer 21 reckons: clamped parts and the bytes of a pixel. Plain arithmetic: no program is named here. -/
import Derived.Test.YtnfbeldiideonaaFixP
set_option linter.unusedVariables false
set_option linter.unusedSimpArgs false
namespace Go.Proofs.Ytnfbeldiideonaa.LightM
open FixM FixP

def clampL (x : Int) : Int := if x < 0 then 0 else if x > 4294967296 then 4294967296 else x
/-- a clamped part's byte -/
def byteL (c : Int) : Int := floorF (addF (mulF c 1095216660480) 2147483648)
/-- a sum's byte -/
def pixL (x n : Int) : Int := byteL (clampL (divF x (ofF (max n 1))))

theorem clampL_in (x : Int) : 0 ≤ clampL x ∧ clampL x ≤ 4294967296 := by unfold clampL; split <;> (try split) <;> omega
theorem clampL_mono {x y : Int} (h : x ≤ y) : clampL x ≤ clampL y := by unfold clampL; split <;> (try split) <;> (try split) <;> (try split) <;> omega
theorem clampL_id {x : Int} (h1 : 0 ≤ x) (h2 : x ≤ 4294967296) : clampL x = x := by unfold clampL; rw [if_neg (by omega), if_neg (by omega)]
theorem clampL_twice (x : Int) : clampL (clampL x) = clampL x := clampL_id (clampL_in x).1 (clampL_in x).2
theorem clampL_minmax (x : Int) : min (max x 0) 4294967296 = clampL x := by unfold clampL; split <;> (try split) <;> omega
theorem byteL_eq {c : Int} (h1 : 0 ≤ c) (h2 : c ≤ 4294967296) : byteL c = (c * 1095216660480 / 4294967296 + 2147483648) / 4294967296 := by
  unfold byteL addF mulF floorF
  rw [clamp_id (x := c * 1095216660480 / 4294967296) (by omega) (by omega), clamp_id (by omega) (by omega)]
theorem byteL_in {c : Int} (h1 : 0 ≤ c) (h2 : c ≤ 4294967296) : 0 ≤ byteL c ∧ byteL c ≤ 255 := by rw [byteL_eq h1 h2]; omega
theorem byteL_mono {a b : Int} (h : a ≤ b) : byteL a ≤ byteL b := floorF_mono (addF_mono _ (mulF_mono h (by decide)))
theorem pixL_in (x n : Int) : 0 ≤ pixL x n ∧ pixL x n ≤ 255 := byteL_in (clampL_in _).1 (clampL_in _).2
theorem ofF_pos {n : Int} (h : 1 ≤ n) : 0 < ofF n := by unfold ofF clamp; split <;> (try split) <;> omega
theorem pixL_mono {x y : Int} (n : Int) (h : x ≤ y) : pixL x n ≤ pixL y n := byteL_mono (clampL_mono (divF_mono h (ofF_pos (by omega))))
theorem pixL_alike {c n : Int} (h1 : 0 ≤ c) (h2 : c ≤ 4294967296) (h3 : 1 ≤ n) (h4 : n ≤ 64) : pixL (n * c) n = pixL c 1 := by
  have e1 : divF (n * c) (ofF n) = c := by
    have e : ofF n = n * 4294967296 := by unfold ofF; rw [clamp_id (by omega) (by omega)]
    rw [e]; unfold divF
    rw [if_neg (by omega), if_pos (by omega), show n * c * 4294967296 = c * (n * 4294967296) by rw [Int.mul_comm n c, Int.mul_assoc], Int.mul_ediv_cancel _ (by omega), clamp_id (by omega) (by omega)]
  have e2 : divF c (ofF 1) = c := divF_one (by omega) (by omega)
  unfold pixL
  rw [show max n 1 = n by omega, show max (1 : Int) 1 = 1 by decide, e1, e2]
/-- how many samples a statement takes -/
theorem samples_in (s : Int) : 1 ≤ (if Int.tmod s 64 + 1 < 1 then Int.tmod s 64 + 1 + 63 else Int.tmod s 64 + 1) ∧ (if Int.tmod s 64 + 1 < 1 then Int.tmod s 64 + 1 + 63 else Int.tmod s 64 + 1) ≤ 64 := by
  have h1 := Int.tmod_lt_of_pos s (show (0 : Int) < 64 by decide)
  have h2 : -64 < Int.tmod s 64 := Int.lt_tmod_of_pos s (by decide)
  generalize Int.tmod s 64 = t at *
  split <;> omega
end Go.Proofs.Ytnfbeldiideonaa.LightM
