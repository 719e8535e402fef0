/- The fixed examples of chapter 04. -/
import Derived.Test.YtadnikpbmjflaaaSumsL
import Derived.Deep.RegionWith
import Derived.ChangeAlike
namespace Go.Proofs.Ytadnikpbmjflaaa.SumsN
open Go.RowKit SumsM SumsW Base Low SumsL

theorem ad1 (v : Value) (L : List Nat) (W : World) (h : Nums .u8 256 W v L) : Calls Try.prog 15 #[.int .u32 1, v] W fun e w' => e = .returned (.int .u32 (adler 1 L : Nat)) ∧ W = w' := adler_any 1 (by omega) _ L W h
theorem adM (v : Value) (L : List Nat) (W : World) (h : Nums .u8 256 W v L) : Calls Try.prog 15 #[.int .u32 4294967295, v] W fun e w' => e = .returned (.int .u32 (adler 4294967295 L : Nat)) ∧ W = w' := adler_any 4294967295 (by omega) _ L W h
theorem rad1 (v : Value) (L : List Nat) (W : World) (h : Nums .u8 256 W v L) : Calls Try.prog 16 #[.int .u32 1, v] W fun e w' => e = .returned (.int .u32 (adler 1 L : Nat)) ∧ W = w' := refAdler_any 1 (by omega) _ L W h
theorem radM (v : Value) (L : List Nat) (W : World) (h : Nums .u8 256 W v L) : Calls Try.prog 16 #[.int .u32 4294967295, v] W fun e w' => e = .returned (.int .u32 (adler 4294967295 L : Nat)) ∧ W = w' := refAdler_any 4294967295 (by omega) _ L W h
theorem crcM (W : World) : Calls Try.prog 17 #[.int .u32 4294967295, .slice none 0 0] W fun e w' => e = .returned (.int .u32 4294967295) ∧ Below W.heap.size W w' := crc_any 4294967295 (by omega) _ [] W (Nums.nil _ _ _)
theorem crc0 (v : Value) (L : List Nat) (W : World) (h : Nums .u8 256 W v L) : Calls Try.prog 17 #[.int .u32 0, v] W fun e w' => e = .returned (.int .u32 (crc 0 L : Nat)) ∧ Below W.heap.size W w' := crc_any 0 (by omega) _ L W h
theorem rcrc0 (v : Value) (L : List Nat) (W : World) (h : Nums .u8 256 W v L) : Calls Try.prog 18 #[.int .u32 0, v] W fun e w' => e = .returned (.int .u32 (crc 0 L : Nat)) ∧ W = w' := refCrc_same 0 (by omega) _ L W h

set_option maxRecDepth 100000 in
set_option maxHeartbeats 2000000 in
theorem numbers_any (w : World) :
    Calls Try.prog 3 #[] w fun e w' => e = .returned (.bool true) ∧ Below w.heap.size w w' := by
  go_enter Try.func3, Try.ntmps3
  go_wp2
  go_loopw [1, 2] (fun v i wr => ∃ k : Nat, k ≤ 20000 ∧ i = .int .i64 k ∧ Own .u8 256 5 w.heap.size wr v (List.replicate k 255) ∧ Below w.heap.size w wr) (fun _ i _ => 20000 - (intOf i).toNat)
  case atStart => exact ⟨0, Nat.zero_le _, rfl, Own.nil _ _ _ _ _, Below.refl _ _⟩
  case round =>
    obtain ⟨k, hk, rfl, hown, hbel⟩ := hrel
    by_cases hlt : k < 20000
    · have hb1 : ((List.replicate k 255).length + [255].length) * 1 ≤ 140737488355328 := by simp; omega
      have hb2 : (List.replicate k 255).length + [255].length ≤ 140737488355328 := by simp; omega
      have hO := Lib.hid (hown.alloc (.cells #[.int .u8 ((255 : Nat) : Int)] 5))
      have hN := Lib.hid (nums_one .u8 256 5 wr 255 (by omega))
      have hbs : w.heap.size ≤ (wr.alloc (.cells #[.int .u8 ((255 : Nat) : Int)] 5)).heap.size := by simp; have := hbel.size; omega
      have hB1 := Lib.hid hb1
      have hB2 := Lib.hid hb2
      clear hb1 hb2
      go_wp2_with (at_builtin; refine wpList_append_nums rfl (.tmp 7) (.tmp 8) 22 5 rfl .u8 256 1 w.heap.size u8s u1 _ rfl hO.out _ [255] rfl hN.out hB1.out hB2.out hbs ?_; intro v2 w2 hown2 hgr2)
      go_roundw
      case rel =>
        refine ⟨k + 1, by omega, by go_num, by rw [List.replicate_succ', ← List.append_eq]; exact hown2, ?_⟩
        exact below_grown (hbel.alloc hbel.size _) hO.out hgr2 (Nat.le_refl _) hbs
      case measure => simp [intOf]; omega
    · obtain ⟨L, hL⟩ : ∃ L, L = List.replicate k 255 := ⟨_, rfl⟩
      rw [← hL] at hown
      have hlen : L.length = 20000 := by rw [hL, List.length_replicate]; omega
      clear hL
      obtain ⟨g, cap, rfl, hcap, hbg, hgs, _⟩ := hown.at_ (by omega)
      have hN := hown.nums
      rw [hlen] at hN hcap
      have hP := hN.take 5552 (by omega) hlen.symm (by simp)
      generalize L.take 5552 = L2 at *
      have hlen2 := Lib.hid hlen
      rw [hlen]
      clear hlen hown hgs hbg
      have hZ := Nums.nil .u8 256 wr
      go_wp2
      go_region_with (first
        | (go_at_call_of 15 (Value.slice none 0 0); refine (adM _ [] _ (Nums.nil _ _ _)).mono ?_; rintro e w9 ⟨rfl, rfl⟩)
        | (go_at_call_of 16 (Value.slice none 0 0); refine (radM _ [] _ (Nums.nil _ _ _)).mono ?_; rintro e w9 ⟨rfl, rfl⟩)
        | (go_at_call_of 15 (Value.slice (some ⟨g, 0, none⟩) 20000 cap); refine (ad1 _ L _ hN.drew).mono ?_; rintro e w9 ⟨rfl, rfl⟩)
        | (go_at_call_of 16 (Value.slice (some ⟨g, 0, none⟩) 20000 cap); refine (rad1 _ L _ hN.drew).mono ?_; rintro e w9 ⟨rfl, rfl⟩)
        | (go_at_call_of 15 (Value.slice (some ⟨g, 0, none⟩) 5552 cap); refine (adM _ L2 _ hP.drew).mono ?_; rintro e w9 ⟨rfl, rfl⟩)
        | (go_at_call_of 16 (Value.slice (some ⟨g, 0, none⟩) 5552 cap); refine (radM _ L2 _ hP.drew).mono ?_; rintro e w9 ⟨rfl, rfl⟩)
        | (go_at_call_of 17 (Value.slice none 0 0); refine (crcM _).mono ?_; rintro e w9 ⟨rfl, hb9⟩)
        | (go_at_call_of 17 (Value.slice (some ⟨g, 0, none⟩) 20000 cap); refine (crc0 _ L _ (hN.drew.below hb9 (Nat.le_refl _))).mono ?_; rintro e w10 ⟨rfl, hb10⟩)
        | (go_at_call_of 18 (Value.slice (some ⟨g, 0, none⟩) 20000 cap); refine (rcrc0 _ L _ ((hN.drew.below hb9 (Nat.le_refl _)).below hb10 (Nat.le_refl _))).mono ?_; rintro e w11 ⟨rfl, rfl⟩)
        | (go_at_call 19; refine (awake_any _).mono ?_; rintro e w12 ⟨rfl, hb12⟩))
      all_goals go_wp2
      all_goals go_ret
      all_goals exact ⟨rfl, hbel.trans ((below_of_drew (ext_trans (ext_trans hb9 hb10) hb12)).mono hbel.size)⟩
end Go.Proofs.Ytadnikpbmjflaaa.SumsN
