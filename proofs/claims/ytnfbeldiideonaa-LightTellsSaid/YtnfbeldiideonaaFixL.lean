/- The walks of math/bits: Len64, LeadingZeros64. -/
import Derived.Test.YtnfbeldiideonaaRows
import Derived.Test.YtnfbeldiideonaaBase
import Derived.Lib.Strings
import Derived.Lib.Slices
import Derived.Lib.Small
import Derived.Lib.Walk
import Derived.Lib.BitFns
set_option linter.unusedVariables false
set_option linter.unusedSimpArgs false
namespace Go.Proofs.Ytnfbeldiideonaa.FixL
open Go.RowKit Base

theorem bitLenAux_spec : ∀ (f x : Nat), x < 2 ^ f → Lib.bitLenAux f x ≤ f ∧ x < 2 ^ Lib.bitLenAux f x ∧ (x ≠ 0 → 1 ≤ Lib.bitLenAux f x ∧ 2 ^ (Lib.bitLenAux f x - 1) ≤ x) := by
  intro f
  induction f with
  | zero => intro x h; simp only [Nat.pow_zero] at h; exact ⟨Nat.le_refl _, by simpa [Lib.bitLenAux] using h, fun h0 => absurd (by omega) h0⟩
  | succ f ih =>
    intro x h
    unfold Lib.bitLenAux
    by_cases h0 : x = 0
    · rw [if_pos h0]; exact ⟨by omega, by simp [h0], fun h => absurd h0 h⟩
    · rw [if_neg h0]
      obtain ⟨i1, i2, i3⟩ := ih (x / 2) (by rw [Nat.pow_succ] at h; omega)
      refine ⟨by omega, ?_, fun _ => ⟨by omega, ?_⟩⟩
      · rw [Nat.add_comm, Nat.pow_succ]; omega
      · rw [show 1 + Lib.bitLenAux f (x / 2) - 1 = Lib.bitLenAux f (x / 2) by omega]
        by_cases h1 : x / 2 = 0
        · have : Lib.bitLenAux f (x / 2) = 0 := by
            rw [h1]; cases f with
            | zero => rfl
            | succ f => unfold Lib.bitLenAux; simp
          rw [this]; simp; omega
        · obtain ⟨j1, j2⟩ := i3 h1
          have e : 2 ^ Lib.bitLenAux f (x / 2) = 2 ^ (Lib.bitLenAux f (x / 2) - 1) * 2 := by rw [← Nat.pow_succ]; congr 1; omega
          rw [e]; omega
/-- how many zeros lead -/
def lz (y : Nat) : Nat := 64 - Lib.bitLen y
theorem lz_spec {y : Nat} (h1 : 1 ≤ y) (h2 : y < 18446744073709551616) : lz y ≤ 63 ∧ 9223372036854775808 ≤ y * 2 ^ lz y ∧ y * 2 ^ lz y < 18446744073709551616 := by
  obtain ⟨a, b, c⟩ := bitLenAux_spec 64 y (by simpa using h2)
  obtain ⟨c1, c2⟩ := c (by omega)
  have e : lz y = 64 - Lib.bitLenAux 64 y := rfl
  rw [e]
  refine ⟨by omega, ?_, ?_⟩
  · calc (9223372036854775808 : Nat) = 2 ^ (Lib.bitLenAux 64 y - 1) * 2 ^ (64 - Lib.bitLenAux 64 y) := by rw [← Nat.pow_add, show Lib.bitLenAux 64 y - 1 + (64 - Lib.bitLenAux 64 y) = 63 by omega]
      _ ≤ _ := Nat.mul_le_mul_right _ c2
  · calc y * 2 ^ (64 - Lib.bitLenAux 64 y) < 2 ^ Lib.bitLenAux 64 y * 2 ^ (64 - Lib.bitLenAux 64 y) := Nat.mul_lt_mul_of_pos_right b (Nat.two_pow_pos _)
      _ = 18446744073709551616 := by rw [← Nat.pow_add, show Lib.bitLenAux 64 y + (64 - Lib.bitLenAux 64 y) = 64 by omega]
theorem tab_at (i : Int) (h0 : 0 ≤ i) (h1 : i ≤ 255) : ∃ b : Nat, b ≤ 8 ∧ Lib.bitLen i.toNat = b ∧ ∀ w, (Instr.index 9 (.string Lib.len8tab) (.int .u8 i)).run Try.prog w = .ok (.int .u8 (b : Int)) w := by
  refine ⟨Lib.bitLen i.toNat, Lib.bitLen_le8' i h0 h1, rfl, fun w => ?_⟩
  rw [Lib.run_index_len8tab w 9 .u8 i Try.underlying9 h0 h1, Lib.len8_of i h0 h1]
set_option maxHeartbeats 4000000 in
set_option maxRecDepth 100000 in
theorem len64_any (x : Int) (w : World) (h0 : 0 ≤ x) (h1 : x ≤ 18446744073709551615) :
    Calls Try.prog 73 #[.int .u64 x] w fun e w' => e = .returned (.int .i64 (Lib.bitLen x.toNat)) ∧ w' = w := by
  by_cases c0 : 4294967296 ≤ x
  · have d0 : 0 ≤ x / 4294967296 := by omega
    by_cases c1 : 65536 ≤ x / 4294967296
    · have d1 : 0 ≤ x / 4294967296 / 65536 := by omega
      by_cases c2 : 256 ≤ x / 4294967296 / 65536
      · have d2 : 0 ≤ x / 4294967296 / 65536 / 256 := by omega
        obtain ⟨b, b1, b2, b3⟩ := tab_at (x / 4294967296 / 65536 / 256) (by omega) (by omega)
        have HB := Lib.hid (show Lib.bitLen x.toNat = 56 + b by rw [Lib.bitLen_shift56 x.toNat (by omega) (by omega), ← b2]; congr 2; omega)
        clear b2
        go_enter Try.func73, Try.ntmps73
        go_wp2_with fail
        go_ret
        exact ⟨ret_int (by rw [HB.out]; try omega), rfl⟩
      · have d2 : x / 4294967296 / 65536 < 256 := by omega
        obtain ⟨b, b1, b2, b3⟩ := tab_at (x / 4294967296 / 65536) (by omega) (by omega)
        have HB := Lib.hid (show Lib.bitLen x.toNat = 48 + b by rw [Lib.bitLen_shift48 x.toNat (by omega) (by omega), ← b2]; congr 2; omega)
        clear b2
        go_enter Try.func73, Try.ntmps73
        go_wp2_with fail
        go_ret
        exact ⟨ret_int (by rw [HB.out]; try omega), rfl⟩
    · have d1 : x / 4294967296 < 65536 := by omega
      by_cases c2 : 256 ≤ x / 4294967296
      · have d2 : 0 ≤ x / 4294967296 / 256 := by omega
        obtain ⟨b, b1, b2, b3⟩ := tab_at (x / 4294967296 / 256) (by omega) (by omega)
        have HB := Lib.hid (show Lib.bitLen x.toNat = 40 + b by rw [Lib.bitLen_shift40 x.toNat (by omega) (by omega), ← b2]; congr 2; omega)
        clear b2
        go_enter Try.func73, Try.ntmps73
        go_wp2_with fail
        go_ret
        exact ⟨ret_int (by rw [HB.out]; try omega), rfl⟩
      · have d2 : x / 4294967296 < 256 := by omega
        obtain ⟨b, b1, b2, b3⟩ := tab_at (x / 4294967296) (by omega) (by omega)
        have HB := Lib.hid (show Lib.bitLen x.toNat = 32 + b by rw [Lib.bitLen_shift32 x.toNat (by omega) (by omega), ← b2]; congr 2; omega)
        clear b2
        go_enter Try.func73, Try.ntmps73
        go_wp2_with fail
        go_ret
        exact ⟨ret_int (by rw [HB.out]; try omega), rfl⟩
  · have d0 : x < 4294967296 := by omega
    by_cases c1 : 65536 ≤ x
    · have d1 : 0 ≤ x / 65536 := by omega
      by_cases c2 : 256 ≤ x / 65536
      · have d2 : 0 ≤ x / 65536 / 256 := by omega
        obtain ⟨b, b1, b2, b3⟩ := tab_at (x / 65536 / 256) (by omega) (by omega)
        have HB := Lib.hid (show Lib.bitLen x.toNat = 24 + b by rw [Lib.bitLen_shift24 x.toNat (by omega) (by omega), ← b2]; congr 2; omega)
        clear b2
        go_enter Try.func73, Try.ntmps73
        go_wp2_with fail
        go_ret
        exact ⟨ret_int (by rw [HB.out]; try omega), rfl⟩
      · have d2 : x / 65536 < 256 := by omega
        obtain ⟨b, b1, b2, b3⟩ := tab_at (x / 65536) (by omega) (by omega)
        have HB := Lib.hid (show Lib.bitLen x.toNat = 16 + b by rw [Lib.bitLen_shift16 x.toNat (by omega) (by omega), ← b2]; congr 2; omega)
        clear b2
        go_enter Try.func73, Try.ntmps73
        go_wp2_with fail
        go_ret
        exact ⟨ret_int (by rw [HB.out]; try omega), rfl⟩
    · have d1 : x < 65536 := by omega
      by_cases c2 : 256 ≤ x
      · have d2 : 0 ≤ x / 256 := by omega
        obtain ⟨b, b1, b2, b3⟩ := tab_at (x / 256) (by omega) (by omega)
        have HB := Lib.hid (show Lib.bitLen x.toNat = 8 + b by rw [Lib.bitLen_shift8 x.toNat (by omega) (by omega), ← b2]; congr 2; omega)
        clear b2
        go_enter Try.func73, Try.ntmps73
        go_wp2_with fail
        go_ret
        exact ⟨ret_int (by rw [HB.out]; try omega), rfl⟩
      · have d2 : x < 256 := by omega
        obtain ⟨b, b1, b2, b3⟩ := tab_at (x) (by omega) (by omega)
        have HB := Lib.hid b2
        clear b2
        go_enter Try.func73, Try.ntmps73
        go_wp2_with fail
        go_ret
        exact ⟨ret_int (by rw [HB.out]; try omega), rfl⟩
set_option maxHeartbeats 1000000 in
theorem lz_any (y : Nat) (h1 : 1 ≤ y) (h2 : y < 18446744073709551616) (w : World) : Calls Try.prog 70 #[.int .u64 (y : Int)] w fun e w' => e = .returned (.int .i64 (lz y : Int)) ∧ w = w' := by
  have c := len64_any (y : Int) w (by omega) (by omega)
  have hb := (bitLenAux_spec 64 y (by simpa using h2)).1
  have e : (y : Int).toNat = y := by omega
  rw [e] at c
  have HV := Lib.hid (show (lz y : Int) = 64 - (Lib.bitLen y : Int) by unfold lz; unfold Lib.bitLen at *; omega)
  have hb' : Lib.bitLen y ≤ 64 := hb
  clear hb e
  generalize Lib.bitLen y = b at *
  have C := Lib.hid c
  clear c
  go_enter Try.func70, Try.ntmps70
  go_wp2_with fail
  refine C.out.mono ?_
  rintro e w1 ⟨rfl, rfl⟩
  go_wp2_with fail
  go_ret
  exact ⟨ret_int (by rw [HV.out]), rfl⟩
end Go.Proofs.Ytnfbeldiideonaa.FixL
