/- The walk of the reference's Hex. -/
import Derived.Test.YtmdhekpfkligiaaShaH
set_option linter.unusedVariables false
set_option linter.unusedSimpArgs false
namespace Go.Proofs.Ytmdhekpfkligiaa.ShaG
open Go.RowKit Base Num Low ShaH

theorem strOf_append (l m : List Nat) : strOf l ++ strOf m = strOf (l ++ m) := by
  apply ByteArray.ext
  apply Array.toList_inj.1
  rw [strOf_data, ByteArray.data_append, Array.toList_append, strOf_data, strOf_data, List.map_append]
theorem strOf_size (l : List Nat) : (strOf l).size = l.length := by
  have h := congrArg List.length (strOf_data l)
  simpa using h
theorem run_cut (n : Nat) (h : n < 16) (w : World) : (Instr.sliceAt 9 (.string { data := #[48, 49, 50, 51, 52, 53, 54, 55, 56, 57, 97, 98, 99, 100, 101, 102] }) (some (.int .u8 (n : Int))) (some (.int .u8 ((n : Int) + 1))) none).run Try.prog w = .ok (.string (strOf [dig n])) w := by
  rcases (show n = 0 ∨ n = 1 ∨ n = 2 ∨ n = 3 ∨ n = 4 ∨ n = 5 ∨ n = 6 ∨ n = 7 ∨ n = 8 ∨ n = 9 ∨ n = 10 ∨ n = 11 ∨ n = 12 ∨ n = 13 ∨ n = 14 ∨ n = 15 from by omega) with rfl | rfl | rfl | rfl | rfl | rfl | rfl | rfl | rfl | rfl | rfl | rfl | rfl | rfl | rfl | rfl <;> kernel_rfl
theorem cut_dig (n : Nat) (h : n < 16) : ByteArray.extract { data := #[48, 49, 50, 51, 52, 53, 54, 55, 56, 57, 97, 98, 99, 100, 101, 102] } n (n + 1) = strOf [dig n] := by
  rcases (show n = 0 ∨ n = 1 ∨ n = 2 ∨ n = 3 ∨ n = 4 ∨ n = 5 ∨ n = 6 ∨ n = 7 ∨ n = 8 ∨ n = 9 ∨ n = 10 ∨ n = 11 ∨ n = 12 ∨ n = 13 ∨ n = 14 ∨ n = 15 from by omega) with rfl | rfl | rfl | rfl | rfl | rfl | rfl | rfl | rfl | rfl | rfl | rfl | rfl | rfl | rfl | rfl <;> kernel_rfl
set_option maxRecDepth 100000 in
set_option maxHeartbeats 2000000 in
theorem rhex_any (f : Nat → Nat) (hf : ∀ i, f i < 256) (w : World) :
    Calls Try.prog 11 #[.agg (arr .u8 32 f)] w fun e w' => e = .returned (.string (strOf (hexL (rowOf f 32)))) ∧ Below w.heap.size w w' := by
  have hF := Lib.hid hf
  clear hf
  go_enter Try.func11, Try.ntmps11
  go_wp2_with fail
  have HR := Lib.hid (heap_alloc_new w (.cells (arr .u8 32 f) 23))
  have HB := Lib.hid (ext_alloc w (.cells (arr .u8 32 f) 23))
  generalize w.alloc (.cells (arr .u8 32 f) 23) = W at *
  go_loopw [3, 4] (fun v3 v wr => ∃ i : Nat, i ≤ 32 ∧ v = .int .i64 (i : Int) ∧ v3 = .string (strOf (hexL (rowOf f i))) ∧ wr.heap[w.heap.size]? = some (.cells (arr .u8 32 f) 23 (0, 0)) ∧ Below w.heap.size w wr) (fun _ v _ => 32 - (intOf v).toNat)
  case atStart => exact ⟨0, by omega, rfl, rfl, HR.out, HB.out⟩
  case round =>
    obtain ⟨i, hi, rfl, rfl, hr, hb⟩ := hrel
    clear HR HB
    have HR := Lib.hid hr
    have HB := Lib.hid hb
    clear hr hb
    by_cases hlt : i < 32
    · have hiI : (i : Int) < 32 := by omega
      have d1 : decide ((i : Int) < 32) = true := decide_eq_true hiI
      have c1 := (cell_of_row _ _ i _ _ _ HR.out).trans (arr_at _ _ _ _ hlt)
      have hx := hF.out i
      have hs := hexL_snoc f i
      generalize f i = x at *
      obtain ⟨y, hy⟩ : ∃ y, y = x / 16 := ⟨_, rfl⟩
      obtain ⟨z, hz⟩ : ∃ z, z = x % 16 := ⟨_, rfl⟩
      have hy16 : y < 16 := by omega
      have hz16 : z < 16 := by omega
      have hq : (x : Int) / 16 = (y : Int) := by omega
      have hm : (x : Int) % 16 = (z : Int) := by omega
      have hwy : IntKind.u8.wrap ((y : Int) + 1) = (y : Int) + 1 := IntWalk.u8_in _ (by omega)
      have hwz : IntKind.u8.wrap ((z : Int) + 1) = (z : Int) + 1 := IntWalk.u8_in _ (by omega)
      rw [← hy, ← hz] at hs
      have h1 := cut_dig y hy16
      have h2 := cut_dig z hz16
      have hwy0 : IntKind.u8.wrap (y : Int) = (y : Int) := IntWalk.u8_in _ (by omega)
      have hwz0 : IntKind.u8.wrap (z : Int) = (z : Int) := IntWalk.u8_in _ (by omega)
      have by1 : (y : Int) + 1 ≤ 16 := by omega
      have bz1 : (z : Int) + 1 ≤ 16 := by omega
      have by2 : (y : Int) ≤ (y : Int) + 1 := by omega
      have bz2 : (z : Int) ≤ (z : Int) + 1 := by omega
      have by3 : ((y : Int) + 1).toNat = y + 1 := by omega
      have bz3 : ((z : Int) + 1).toNat = z + 1 := by omega
      have hl := hexL_length f i
      obtain ⟨A, hA⟩ : ∃ A, A = strOf (hexL (rowOf f i)) := ⟨_, rfl⟩
      obtain ⟨B, hB⟩ : ∃ B, B = strOf [dig y] := ⟨_, rfl⟩
      obtain ⟨C, hC⟩ : ∃ C, C = strOf [dig z] := ⟨_, rfl⟩
      obtain ⟨AB, hAB⟩ : ∃ AB, A ++ B = AB := ⟨_, rfl⟩
      obtain ⟨ABC, hABC⟩ : ∃ ABC, AB ++ C = ABC := ⟨_, rfl⟩
      have hfin : strOf (hexL (rowOf f (i + 1))) = ABC := by
        rw [hs, ← hABC, ← hAB, hA, hB, hC, strOf_append, strOf_append, List.append_assoc]; rfl
      have zA : A.size = 2 * i := by rw [hA, strOf_size, hl]
      have zB : B.size = 1 := by rw [hB, strOf_size]; rfl
      have zC : C.size = 1 := by rw [hC, strOf_size]; rfl
      have zAB : AB.size = 2 * i + 1 := by rw [← hAB, ByteArray.size_append, zA, zB]
      have k1 : ¬ 9223372036854775807 < A.size + B.size := by omega
      have k2 : ¬ 9223372036854775807 < AB.size + C.size := by omega
      rw [← hB] at h1
      rw [← hC] at h2
      rw [← hA]
      have HF := Lib.hid hfin
      clear hs hy hz hl hA hB hC hfin zA zB zC zAB
      go_wp2_with fail
      go_quiet (fail)
      clear h1 h2 hAB hABC hwy hwz hwy0 hwz0 by1 by2 by3 bz1 bz2 bz3 hq hm
      go_wp2_with fail
      go_roundw
      case rel => exact ⟨i + 1, by omega, by go_num, by rw [HF.out], HR.out, ⟨HB.out.os, HB.out.tape, HB.out.output, HB.out.size, HB.out.block⟩⟩
      case measure => simp [intOf]; omega
    · have hi32 : i = 32 := by omega
      have hi' : 32 ≤ i := by omega
      have hfin : strOf (hexL (rowOf f i)) = strOf (hexL (rowOf f 32)) := by rw [hi32]
      have HF := Lib.hid hfin
      clear hi32 hlt hfin
      go_wp2_with fail
      go_ret
      exact ⟨by rw [← HF.out]; rfl, HB.out⟩
end Go.Proofs.Ytmdhekpfkligiaa.ShaG
