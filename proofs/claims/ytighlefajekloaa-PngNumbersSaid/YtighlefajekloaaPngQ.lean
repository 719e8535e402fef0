/- Plain: small pictures: the order is the document's, and where a row begins. -/
import Derived.Test.YtighlefajekloaaPj
set_option linter.unusedVariables false
set_option linter.unusedSimpArgs false
namespace Go.Proofs.Ytighlefajekloaa.PngQ
open PngM PngG PngH PngK PngO
set_option maxRecDepth 100000 in
theorem order_fin : ∀ i < 12, ∀ j < 12, orderL (i + 1) (j + 1) = orderQ (i + 1) (j + 1) 7 := by decide +kernel
theorem order_same (a b : Nat) (ha : 1 ≤ a) (ha2 : a ≤ 12) (hb : 1 ≤ b) (hb2 : b ≤ 12) : orderL a b = orderQ a b 7 := by
  have := order_fin (a - 1) (by omega) (b - 1) (by omega)
  rwa [show a - 1 + 1 = a by omega, show b - 1 + 1 = b by omega] at this
theorem wide_len : (orderL 1 1024).length = 1024 := by decide +kernel
/-- the encoder's rows begin where the document's do -/
def chkQ (wd : Nat) (ord : List Nat) : Nat → List Nat → Nat → Nat → Bool
  | 0, _, _, _ => true
  | f + 1, [], _, _ => false
  | f + 1, r0 :: rs, a, i => (decide (a = 0) == newQ wd ord i) && decide (a < r0) && chkQ wd ord f (if a + 1 = r0 then rs else r0 :: rs) (if a + 1 = r0 then 0 else a + 1) (i + 1)
set_option maxRecDepth 100000 in
theorem chk_fin : ∀ i < 12, ∀ j < 12, chkQ (i + 1) (orderQ (i + 1) (j + 1) 7) ((i + 1) * (j + 1)) (widthsL (i + 1) (j + 1)) 0 0 = true ∧ (orderQ (i + 1) (j + 1) 7).length = (i + 1) * (j + 1) := by decide +kernel
theorem chk_all (a b : Nat) (ha : 1 ≤ a) (ha2 : a ≤ 12) (hb : 1 ≤ b) (hb2 : b ≤ 12) : chkQ a (orderQ a b 7) (a * b) (widthsL a b) 0 0 = true ∧ (orderQ a b 7).length = a * b := by
  have := chk_fin (a - 1) (by omega) (b - 1) (by omega)
  rwa [show a - 1 + 1 = a by omega, show b - 1 + 1 = b by omega] at this
theorem chk_next {wd : Nat} {ord : List Nat} {f : Nat} {rws : List Nat} {a i : Nat} (h : chkQ wd ord (f + 1) rws a i = true) : ∃ r0 rs, rws = r0 :: rs ∧ (a = 0 ↔ newQ wd ord i = true) ∧ a < r0 ∧ chkQ wd ord f (if a + 1 = r0 then rs else r0 :: rs) (if a + 1 = r0 then 0 else a + 1) (i + 1) = true := by
  cases rws with
  | nil => simp [chkQ] at h
  | cons r0 rs =>
    simp only [chkQ, Bool.and_eq_true, beq_iff_eq, decide_eq_true_eq] at h
    obtain ⟨⟨h1, h2⟩, h3⟩ := h
    refine ⟨r0, rs, rfl, ?_, h2, h3⟩
    rw [← h1]; simp
theorem inL_same (a : Nat) (wd : Nat) (ord : List Nat) (i : Nat) (px : List Nat) (h : a = 0 ↔ newQ wd ord i = true) : inL a px = inL (atQ wd ord i) px := by
  unfold inL atQ
  by_cases ha : a = 0
  · rw [if_pos ha, if_pos (by rw [if_pos (h.mp ha)])]
  · rw [if_neg ha, if_neg (by rw [if_neg (fun h2 => ha (h.mpr h2))]; omega)]
theorem putL_same (wd ht lf a b : Nat) (bg : Bool) (B px : List Nat) (h : inL a px = inL b px) : putL wd ht lf a bg B px = putL wd ht lf b bg B px := by
  unfold putL toldL
  rw [h]
end Go.Proofs.Ytighlefajekloaa.PngQ
