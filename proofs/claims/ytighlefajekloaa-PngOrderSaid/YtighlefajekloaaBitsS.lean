/- The bits writer's Align and Bits where no reader is in the program; the bits said so far beside the number kept. -/
import Derived.Test.YtighlefajekloaaBitsX
import Derived.Test.YtighlefajekloaaBitsN
import Derived.Test.YtighlefajekloaaDm
import Derived.Deep.RegionWith
import Derived.Deep.QuietTactic
import Derived.BigQuiet
set_option linter.unusedVariables false
set_option linter.unusedSimpArgs false
namespace Go.Proofs.Ytighlefajekloaa.BitsS
open Go.RowKit BitsM Base Low BitsW BitsX DefN

set_option maxRecDepth 100000 in
set_option maxHeartbeats 1000000 in
theorem align_any (base g V R T : Nat) (v : Value) (w : World) (h : Wr base w g v V R T) (hR : 8 * T + R ≤ 562949953421312) :
    Calls Try.prog 53 #[.pointer (some ⟨g, 0, none⟩)] w (PutTo base g T v w V (R + (8 - R % 8) % 8)) := by
  have c0 := (cell_of_row _ _ 0 _ _ _ h.blk)
  have c2 := (cell_of_row _ _ 2 _ _ _ h.blk)
  simp only [List.getElem?_toArray, List.getElem?_cons_succ, List.getElem?_cons_zero] at c0 c2
  obtain ⟨at_, hat⟩ : ∃ a, a = R % 8 := ⟨_, rfl⟩
  have hin := inside_at g (8 * T + R) at_ (by omega) (by omega) w c2
  obtain ⟨k, hk⟩ : ∃ k, k = (8 - at_) % 8 := ⟨_, rfl⟩
  have ek : ((8 : Int) - (at_ : Int)) % 8 = (k : Int) := by omega
  have hp := put_any base g V R T v w h 0 k (by omega) (Nat.pow_pos (by omega)) hR
  rw [Nat.zero_mul, Nat.add_zero] at hp
  rw [← hat, ← hk]
  have hI := Lib.hid hin
  have hP := Lib.hid hp
  have ha8 : at_ ≤ 7 := by omega
  clear hin hp hk hat h
  go_enter Try.func53, Try.ntmps53
  go_wp2_with (go_at_call 64; refine hI.out.mono ?_; rintro e w1 ⟨rfl, rfl⟩)
  refine hP.out.mono ?_
  rintro e w1 ⟨rfl, hw1⟩
  go_wp2_with fail
  go_ret
  exact ⟨rfl, hw1⟩

theorem bits_any (base g V R T : Nat) (v : Value) (w : World) (h : Wr base w g v V R T) :
    Calls Try.prog 62 #[.pointer (some ⟨g, 0, none⟩)] w fun e w' => e = .returned (.int .i64 ((8 * T + R : Nat) : Int)) ∧ w = w' := by
  have c0 := (cell_of_row _ _ 0 _ _ _ h.blk)
  have c2 := (cell_of_row _ _ 2 _ _ _ h.blk)
  simp only [List.getElem?_toArray, List.getElem?_cons_succ, List.getElem?_cons_zero] at c0 c2
  clear h
  go_enter Try.func62, Try.ntmps62
  go_wp2
  go_ret
  exact ⟨rfl, rfl⟩
/-- what the two say is the same -/
structure Rel (L : List Bool) (V R T : Nat) : Prop where
  len : L.length = 8 * T + R
  num : V = num L / 256 ^ T
theorem Rel.put {L : List Bool} {V R T : Nat} (h : Rel L V R T) (n k : Nat) (hn : n < 2 ^ k) : Rel (L ++ bitsOf n k) (V + n * 2 ^ R) (R + k) T := by
  refine ⟨by rw [List.length_append, bitsOf_length, h.len]; omega, ?_⟩
  rw [num_append, num_bitsOf n k hn, h.len, h.num, Nat.pow_add, ← pow256, Nat.mul_assoc, Nat.add_mul_div_left _ _ (Nat.pow_pos (by omega)), Nat.mul_comm (2 ^ R)]
theorem num_falses (k : Nat) : num (List.replicate k false) = 0 := by
  induction k with
  | zero => rfl
  | succ k ih => rw [List.replicate_succ]; show false.toNat + 2 * num _ = 0; rw [ih]; rfl
theorem Rel.align {L : List Bool} {V R T : Nat} (h : Rel L V R T) : Rel (L ++ List.replicate (al8 L.length - L.length) false) V (R + (8 - R % 8) % 8) T := by
  have hl := h.len
  refine ⟨by rw [List.length_append, List.length_replicate]; unfold al8; omega, ?_⟩
  rw [num_append, num_falses, Nat.mul_zero, Nat.add_zero]; exact h.num
theorem Rel.take {L : List Bool} {V R T : Nat} (h : Rel L V R T) : Rel L (V / 256 ^ (R / 8)) (R % 8) (T + R / 8) ∧ L.length / 8 = T + R / 8 ∧ L.length / 8 - T = R / 8 := by
  have hl := h.len
  refine ⟨⟨by omega, ?_⟩, by omega, by omega⟩
  rw [h.num, Nat.div_div_eq_div_mul, ← Nat.pow_add]
end Go.Proofs.Ytighlefajekloaa.BitsS
