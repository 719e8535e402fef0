/- The laws of chapter 04. -/
import Derived.Test.YtadnikpbmjflaaaSumsW
import Derived.Test.YtadnikpbmjflaaaLow
namespace Go.Proofs.Ytadnikpbmjflaaa.SumsL
open Go.RowKit SumsM SumsW Base Low

theorem refCrc_same (sum : Nat) (hs : sum ≤ 4294967295) (v : Value) (l : List Nat) (w : World) (hv : Nums .u8 256 w v l) :
    Calls Try.prog 18 #[.int .u32 (sum : Int), v] w fun e w' => e = .returned (.int .u32 (crc sum l : Nat)) ∧ w = w' := by
  rw [crc_eq sum hs]; exact refCrc_any sum hs v l w hv
theorem crc_ex1 (v : Value) (w : World) (hv : Nums .u8 256 w v [49, 50, 51, 52, 53, 54, 55, 56, 57]) :
    Calls Try.prog 17 #[.int .u32 0, v] w fun e w' => e = .returned (.int .u32 3421780262) ∧ Below w.heap.size w w' := by
  have h := crc_any 0 (by omega) v _ w hv
  rw [ex1] at h; exact h
theorem crc_ex0 (w : World) :
    Calls Try.prog 17 #[.int .u32 0, .slice none 0 0] w fun e w' => e = .returned (.int .u32 0) ∧ Below w.heap.size w w' := by
  have h := crc_any 0 (by omega) _ _ w (Nums.nil .u8 256 w)
  exact h
theorem adler_ex1 (v : Value) (w : World) (hv : Nums .u8 256 w v [87, 105, 107, 105, 112, 101, 100, 105, 97]) :
    Calls Try.prog 15 #[.int .u32 1, v] w fun e w' => e = .returned (.int .u32 300286872) ∧ w = w' := by
  have h := adler_any 1 (by omega) v _ w hv
  rw [ex2] at h; exact h
theorem adler_ex0 (w : World) :
    Calls Try.prog 15 #[.int .u32 1, .slice none 0 0] w fun e w' => e = .returned (.int .u32 1) ∧ w = w' := by
  have h := adler_any 1 (by omega) _ _ w (Nums.nil .u8 256 w)
  exact h

set_option maxRecDepth 100000 in
set_option maxHeartbeats 1000000 in
theorem awake_any (w : World) : Calls Try.prog 19 #[] w fun e w' => e = .returned (.bool true) ∧ Below w.heap.size w w' := by
  have kc := fun (w : World) (C : Array Value) (n c : Nat) => Lib.run_convert_bytes_const (P := Try.prog) w 22 5 C n c Try.underlying22 Try.underlying5
  go_enter Try.func19, Try.ntmps19
  go_wp2_with fail
  refine (crc_ex1 _ _ (nums_blk .u8 256 (heap_alloc_new _ _) _ (by decide) (by decide) rfl 9 rfl)).mono ?_
  rintro e w1 ⟨rfl, hb1⟩
  go_wp2_with fail
  refine (crc_ex0 _).mono ?_
  rintro e w2 ⟨rfl, hb2⟩
  go_wp2_with fail
  refine (adler_ex1 _ _ (nums_blk .u8 256 (heap_alloc_new _ _) _ (by decide) (by decide) rfl 9 rfl)).mono ?_
  rintro e w3 ⟨rfl, rfl⟩
  go_wp2_with fail
  refine (adler_ex0 _).mono ?_
  rintro e w3 ⟨rfl, rfl⟩
  go_wp2_with fail
  go_ret
  exact ⟨rfl, ext_trans (ext_trans (ext_alloc _ _) hb1) (ext_trans hb2 (ext_alloc _ _))⟩

set_option maxRecDepth 100000 in
set_option maxHeartbeats 1000000 in
theorem tells_any (sum : Nat) (hs : sum ≤ 4294967295) (v : Value) (l : List Nat) (w : World) (hv : Nums .u8 256 w v l) :
    Calls Try.prog 4 #[.int .u32 (sum : Int), v] w fun e w' => e = .returned (.bool true) ∧ Below w.heap.size w w' := by
  obtain ⟨a, cap, rfl, hlen, hbyte, hcell⟩ := hv.open_
  by_cases hbig : 4000 < l.length
  · go_enter Try.func4, Try.ntmps4
    go_wp2_with fail
    refine (awake_any _).mono ?_
    rintro e w1 ⟨rfl, hb1⟩
    go_wp2_with fail
    go_ret
    exact ⟨rfl, hb1⟩
  · go_enter Try.func4, Try.ntmps4
    go_wp2_with fail
    refine (copyBytes_any _ l _ hv (by omega)).mono ?_
    rintro e w1 ⟨v1, rfl, hown1, hb1⟩
    go_wp2_with fail
    refine (crc_any sum hs _ l _ hown1.nums).mono ?_
    rintro e w2 ⟨rfl, hb2⟩
    have hv2 := hv.below (ext_trans hb1 hb2) (Nat.le_refl _)
    go_wp2_with fail
    refine (refCrc_same sum hs _ l _ hv2).mono ?_
    rintro e w3 ⟨rfl, rfl⟩
    go_wp2_with fail
    have hv1 := hown1.nums.below hb2 (Nat.le_refl _)
    refine (adler_any sum hs _ l _ hv1).mono ?_
    rintro e w3 ⟨rfl, rfl⟩
    go_wp2_with fail
    refine (refAdler_any sum hs _ l _ hv2).mono ?_
    rintro e w3 ⟨rfl, rfl⟩
    go_wp2_with fail
    refine (sameBytes_any _ _ l l _ hv1 hv2).mono ?_
    rintro e w3 ⟨rfl, rfl⟩
    have hd : decide (l = l) = true := by simp
    go_wp2_with fail
    refine (awake_any _).mono ?_
    rintro e w3 ⟨rfl, hb3⟩
    go_wp2_with fail
    go_ret
    exact ⟨rfl, ext_trans (ext_trans hb1 hb2) hb3⟩
end Go.Proofs.Ytadnikpbmjflaaa.SumsL
