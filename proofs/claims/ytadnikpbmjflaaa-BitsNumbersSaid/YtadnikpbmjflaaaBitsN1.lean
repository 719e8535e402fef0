/- The law BitsNumbers. -/
import Derived.Test.YtadnikpbmjflaaaBits7
namespace Go.Proofs.Ytadnikpbmjflaaa.BitsN1
open Go.RowKit BitsM Base Low Bits5 Bits6 BitsW BitsX BitsR BitsG Bits7

set_option maxRecDepth 100000 in
set_option maxHeartbeats 2000000 in
theorem numbers_any (w : World) : Calls Try.prog 7 #[] w fun e w' => e = .returned (.bool true) ∧ Below w.heap.size w w' := by
  go_enter Try.func7, Try.ntmps7
  go_wp2_with fail
  refine (newWriter_any _).mono ?_
  rintro e w1 ⟨rfl, rfl⟩
  have h1 := WS.new w
  generalize w.alloc _ = w1 at *
  go_wp2_with fail
  refine (put_ws h1 4294967295 32 4294967295 32 (by omega) (by omega) (by omega) rfl rfl _ _ rfl rfl).mono ?_
  rintro e w2 ⟨rfl, v2, h2, -⟩
  go_wp2_with fail
  refine (put_ws h2 0 0 4294967295 32 (by omega) (by omega) (by omega) rfl rfl _ _ rfl rfl).mono ?_
  rintro e w3 ⟨rfl, v3, h3, -⟩
  go_wp2_with fail
  refine (put_bad _ _ _ _ _ _ _ h3.wr 1 (by omega) 0 (by omega) (by omega) (.inr (.inr (by decide)))).mono ?_
  rintro e w4 ⟨rfl, rfl⟩
  go_wp2_with fail
  refine (put_bad _ _ _ _ _ _ _ h3.wr 0 (by omega) 33 (by omega) (by omega) (.inr (.inl (by decide)))).mono ?_
  rintro e w4 ⟨rfl, rfl⟩
  go_wp2_with fail
  refine (put_bad _ _ _ _ _ _ _ h3.wr 0 (by omega) (-1) (by omega) (by omega) (.inl (by decide))).mono ?_
  rintro e w4 ⟨rfl, rfl⟩
  go_wp2_with fail
  refine (put_ws h3 1 1 8589934591 33 (by omega) (by omega) (by omega) rfl rfl _ _ rfl rfl).mono ?_
  rintro e w4 ⟨rfl, v4, h4, -⟩
  go_wp2_with fail
  refine (put_ws h4 4294967295 32 36893488147419103231 65 (by omega) (by omega) (by omega) rfl rfl _ _ rfl rfl).mono ?_
  rintro e w5 ⟨rfl, v5, h5, -⟩
  go_wp2_with fail
  refine (bits_any _ _ _ _ _ _ _ h5.wr).mono ?_
  rintro e w6 ⟨rfl, rfl⟩
  go_wp2_with fail
  refine (take_ws h5 (by omega)).mono ?_
  rintro e w6 ⟨u6, v6, rfl, hu6, h6, -⟩
  have h6 : WS w w6 w.heap.size v6 1 1 8 (fun _ => False) := h6.mono (fun _ h => h.elim)
  obtain ⟨a6, cap6, rfl, -, -, -⟩ := hu6.shape
  rw [bytesN_length]
  go_wp2_with fail
  refine (take_ws h6 (by omega)).mono ?_
  rintro e w7 ⟨u7, v7, rfl, hu7, h7, -⟩
  have h7 : WS w w7 w.heap.size v7 1 1 8 (fun _ => False) := h7.mono (fun _ h => h.elim)
  obtain ⟨a7, cap7, rfl, -, -, -⟩ := hu7.shape
  rw [bytesN_length]
  go_wp2_with fail
  refine (align_ws h7 8 (by omega) rfl).mono ?_
  rintro e w8 ⟨rfl, v8, h8, -⟩
  go_wp2_with fail
  refine (align_ws h8 8 (by omega) rfl).mono ?_
  rintro e w9 ⟨rfl, v9, h9, -⟩
  go_wp2_with fail
  refine (take_ws h9 (by omega)).mono ?_
  rintro e w10 ⟨u10, v10, rfl, hu10, h10, -⟩
  go_wp2_with fail
  have hx1 := ext_alloc w10 (.cells #[.int .u8 1] 5)
  refine (sameBytes_any _ _ _ _ _ (hu10.below hx1 (Nat.le_refl _)) (nums_one .u8 256 5 _ 1 (by omega))).mono ?_
  rintro e w11 ⟨rfl, rfl⟩
  rw [show decide (bytesN 1 (8 / 8) = [1]) = true from by decide]
  have h11 : WS w _ w.heap.size v10 0 0 9 (fun _ => False) := (h10.ext hx1).mono (fun _ h => h.elim)
  clear hu10 hx1 h10 h9 h8 h7 h6 h5 h4 h3 h2 h1 hu6 hu7
  generalize w10.alloc _ = w11 at *
  go_wp2_with fail
  refine (bits_any _ _ _ _ _ _ _ h11.wr).mono ?_
  rintro e w12 ⟨rfl, rfl⟩
  have hb := h11.below
  clear h11
  go_wp2_with fail
  have hx := ext_alloc w11 (.cells #[.int .u8 255, .int .u8 255, .int .u8 255, .int .u8 255, .int .u8 128] 5)
  have hblk := heap_alloc_new w11 (.cells #[.int .u8 255, .int .u8 255, .int .u8 255, .int .u8 255, .int .u8 128] 5)
  have hn : Nums .u8 256 (w11.alloc (.cells #[.int .u8 255, .int .u8 255, .int .u8 255, .int .u8 255, .int .u8 128] 5)) (.slice (some ⟨w11.heap.size, 0, none⟩) 5 5) [255, 255, 255, 255, 128] :=
    nums_blk .u8 256 hblk _ (by decide) (by decide) rfl 5 rfl
  have hsz : w11.heap.size < (w11.alloc (.cells #[.int .u8 255, .int .u8 255, .int .u8 255, .int .u8 255, .int .u8 128] 5)).heap.size := by simp
  have hb2 := hb.trans (hx.mono hb.size)
  have hws := hb.size
  clear hx hb h6 h7
  generalize w11.alloc _ = w12 at *
  refine (newReader_rs _ _ _ hn (by simp)).mono ?_
  rintro e w13 ⟨g, rv, rfl, h13⟩
  have p1 : w13.heap[w11.heap.size]? = _ := (h13.below.block _ hsz).trans hblk
  have q1 := cell_of_row _ _ 0 _ _ _ p1
  have g1 := frozen_of_row _ _ 0 _ _ p1
  simp only [List.getElem?_toArray, List.getElem?_cons_zero] at q1
  have hK := (Keeps.refl (fun k => k = w11.heap.size) w13).setCell w11.heap.size 0 (.int .u8 0) (.inl rfl)
  have hrd := h13.rd
  have hgl := h13.rd.low
  have h14 : RS w (w13.setCell ⟨w11.heap.size, 0, none⟩ (.int .u8 0)) g rv [255, 255, 255, 255, 128] 0 := by
    refine ⟨⟨?_, ?_, by omega, hrd.ok, hrd.apart⟩, ?_⟩
    · rw [hK.block g hrd.lt (by omega)]; exact hrd.blk
    · exact Own.mono (base := w12.heap.size) (hrd.own.frame hK (fun b hb => by have := (hrd.own.lt b hb).1; omega)) (by omega)
    · exact (hb2.trans (h13.below.mono (by omega))).trans (hK.below w.heap.size (by have := h13.below.size; omega) (by rintro k rfl; omega))
  have H14 := Lib.hid h14
  clear p1 hK hrd hgl h13 hb2 hn hblk h14
  go_wp2_with fail
  have h14 := H14.out
  clear H14 q1 g1
  generalize w13.setCell _ _ = w14 at *
  refine (get_rs h14 32 4294967295 (by omega) (by simp) (by simp) (by decide) _ rfl).mono ?_
  rintro e w15 ⟨rfl, h15⟩
  go_wp2_with fail
  refine (get_rs h15 0 0 (by omega) (by simp) (by simp) (by decide) _ rfl).mono ?_
  rintro e w16 ⟨rfl, h16⟩
  go_wp2_with fail
  refine (ralign_rs h16 (by omega) 32 rfl).mono ?_
  rintro e w17 ⟨rfl, h17⟩
  go_wp2_with fail
  refine (get_rs h17 7 0 (by omega) (by simp) (by simp) (by decide) _ rfl).mono ?_
  rintro e w18 ⟨rfl, h18⟩
  go_wp2_with fail
  refine (ralign_rs h18 (by omega) 40 rfl).mono ?_
  rintro e w19 ⟨rfl, h19⟩
  go_wp2_with fail
  refine (get_rs_short h19 1 (by omega) (by simp) (by simp) _ rfl).mono ?_
  rintro e w20 ⟨rfl, h20⟩
  go_wp2_with fail
  refine (get_rs_bad h20 33 (by omega)).mono ?_
  rintro e w21 ⟨rfl, h21⟩
  go_wp2_with fail
  refine (get_rs_bad h21 (-1) (by omega)).mono ?_
  rintro e w22 ⟨rfl, h22⟩
  go_wp2_with fail
  refine (rat_any _ _ _ _ _ _ h22.rd).mono ?_
  rintro e w23 ⟨rfl, rfl⟩
  go_wp2_with fail
  refine (awake_any _).mono ?_
  rintro e w23 ⟨rfl, hb23⟩
  go_wp2_with fail
  go_ret
  exact ⟨rfl, h22.below.trans (hb23.mono h22.below.size)⟩
end Go.Proofs.Ytadnikpbmjflaaa.BitsN1
