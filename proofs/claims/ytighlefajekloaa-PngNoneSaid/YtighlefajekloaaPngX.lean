/- Package lightwelllaw09: PngNone. -/
import Derived.Test.YtighlefajekloaaPl
import Derived.Test.YtighlefajekloaaOp
set_option linter.unusedVariables false
set_option linter.unusedSimpArgs false
namespace Go.Proofs.Ytighlefajekloaa.PngX
open Go.RowKit Go.Sort Base PngG PngH PngO PngW OpenPx
/-- two encoders that nobody made -/
structure Two (W : World) (g9 g b : Nat) (p : Px) : Prop where
  rp : W.heap[b]? = some (.cells (encP p).toArray 28)
  rw : W.heap[g9]? = some (.cells #[.pointer none, .pointer (some ⟨g, 0, none⟩)] 29)
  un : W.heap[g]? = some (.cells #[.bool false, .int .i64 0, .int .i64 0, .int .i64 0, .slice none 0 0, .int .i64 0, .pointer none] 49)
theorem Two.ext {W W' : World} {g9 g b : Nat} {p : Px} (h : Two W g9 g b p) (hb : Below W.heap.size W W') : Two W' g9 g b p :=
  ⟨(hb.block b (lt_of_heap h.rp)).trans h.rp, (hb.block g9 (lt_of_heap h.rw)).trans h.rw, (hb.block g (lt_of_heap h.un)).trans h.un⟩
set_option maxRecDepth 100000 in
set_option maxHeartbeats 2000000 in
theorem none_any (v : Value) (w : World) (hv : IsPx w v) : Calls Try.prog 7 #[v] w fun e w' => e = .returned (.bool true) ∧ Below w.heap.size w w' := by
  obtain ⟨p, -, rfl⟩ := hv
  unfold pxV
  go_enter Try.func7, Try.ntmps7
  go_upto_region 3 with (fail)
  obtain ⟨W, hW⟩ : ∃ W, W = ((w.alloc (.cells #[.int .u8 (p.1 : Int), .int .u8 (p.2.1 : Int), .int .u8 (p.2.2.1 : Int), .int .u8 (p.2.2.2 : Int)] 28)).alloc (.cells #[.bool false, .int .i64 0, .int .i64 0, .int .i64 0, .slice none 0 0, .int .i64 0, .pointer none] 49)).alloc (.cells #[.pointer none, .pointer (some ⟨w.heap.size + 1, 0, none⟩)] 29) := ⟨_, rfl⟩
  have H0 := Lib.hid (show Two W (w.heap.size + 1 + 1) (w.heap.size + 1) w.heap.size p ∧ Below w.heap.size w W from by
    have b1 := ext_alloc w (.cells #[.int .u8 (p.1 : Int), .int .u8 (p.2.1 : Int), .int .u8 (p.2.2.1 : Int), .int .u8 (p.2.2.2 : Int)] 28)
    have b2 := ext_alloc (w.alloc (.cells #[.int .u8 (p.1 : Int), .int .u8 (p.2.1 : Int), .int .u8 (p.2.2.1 : Int), .int .u8 (p.2.2.2 : Int)] 28)) (.cells #[.bool false, .int .i64 0, .int .i64 0, .int .i64 0, .slice none 0 0, .int .i64 0, .pointer none] 49)
    have b3 := ext_alloc ((w.alloc (.cells #[.int .u8 (p.1 : Int), .int .u8 (p.2.1 : Int), .int .u8 (p.2.2.1 : Int), .int .u8 (p.2.2.2 : Int)] 28)).alloc (.cells #[.bool false, .int .i64 0, .int .i64 0, .int .i64 0, .slice none 0 0, .int .i64 0, .pointer none] 49)) (.cells #[.pointer none, .pointer (some ⟨w.heap.size + 1, 0, none⟩)] 29)
    have h1 := heap_alloc_new w (.cells #[.int .u8 (p.1 : Int), .int .u8 (p.2.1 : Int), .int .u8 (p.2.2.1 : Int), .int .u8 (p.2.2.2 : Int)] 28)
    have h2 := heap_alloc_new (w.alloc (.cells #[.int .u8 (p.1 : Int), .int .u8 (p.2.1 : Int), .int .u8 (p.2.2.1 : Int), .int .u8 (p.2.2.2 : Int)] 28)) (.cells #[.bool false, .int .i64 0, .int .i64 0, .int .i64 0, .slice none 0 0, .int .i64 0, .pointer none] 49)
    have h3 := heap_alloc_new ((w.alloc (.cells #[.int .u8 (p.1 : Int), .int .u8 (p.2.1 : Int), .int .u8 (p.2.2.1 : Int), .int .u8 (p.2.2.2 : Int)] 28)).alloc (.cells #[.bool false, .int .i64 0, .int .i64 0, .int .i64 0, .slice none 0 0, .int .i64 0, .pointer none] 49)) (.cells #[.pointer none, .pointer (some ⟨w.heap.size + 1, 0, none⟩)] 29)
    rw [hW]
    have s1 : (w.alloc (.cells #[.int .u8 (p.1 : Int), .int .u8 (p.2.1 : Int), .int .u8 (p.2.2.1 : Int), .int .u8 (p.2.2.2 : Int)] 28)).heap.size = w.heap.size + 1 := by simp
    have s2 : ((w.alloc (.cells #[.int .u8 (p.1 : Int), .int .u8 (p.2.1 : Int), .int .u8 (p.2.2.1 : Int), .int .u8 (p.2.2.2 : Int)] 28)).alloc (.cells #[.bool false, .int .i64 0, .int .i64 0, .int .i64 0, .slice none 0 0, .int .i64 0, .pointer none] 49)).heap.size = w.heap.size + 1 + 1 := by simp
    rw [s1] at h2
    rw [s2] at h3
    refine ⟨⟨(b3.block _ (by omega)).trans ((b2.block _ (by omega)).trans h1), h3, (b3.block _ (by omega)).trans h2⟩, (b1.trans (b2.mono b1.size)).trans (b3.mono (Nat.le_trans b1.size b2.size))⟩)
  rw [← hW]
  obtain ⟨b, hb⟩ : ∃ g, g = w.heap.size := ⟨_, rfl⟩
  have H1 := Lib.hid (show Two W (b + 1 + 1) (b + 1) b p ∧ Below w.heap.size w W by rw [hb]; exact H0.out)
  simp only [← hb]
  clear hW hb H0
  go_loopg [13] 2 (fun r n13 wr => ∃ i : Nat, i + r = 2 ∧ n13 = .int .i64 (i : Int) ∧ Hid (Two wr (b + 1 + 1) (b + 1) b p) ∧ Hid (Below w.heap.size w wr))
  case atStart => exact ⟨0, by omega, rfl, Lib.hid H1.out.1, Lib.hid H1.out.2⟩
  case round =>
    obtain ⟨i, hir, rfl, HT, HB⟩ := hrel
    clear H1
    rcases (show i = 0 ∨ i = 1 ∨ i = 2 from by omega) with rfl | rfl | rfl
    · have c0 := cell_of_row _ _ 0 _ _ _ HT.out.rw
      have y0 := cell_of_row _ _ 0 _ _ _ HT.out.rp
      have y1 := cell_of_row _ _ 1 _ _ _ HT.out.rp
      have y2 := cell_of_row _ _ 2 _ _ _ HT.out.rp
      have y3 := cell_of_row _ _ 3 _ _ _ HT.out.rp
      simp only [encP, List.getElem?_toArray, List.getElem?_cons_succ, List.getElem?_cons_zero] at c0 y0 y1 y2 y3
      go_wp2_with fail
      refine (put_nil _ _ _ _ _).mono ?_
      rintro e w1 ⟨rfl, hb1⟩
      have HB1 := Lib.hid (HB.out.trans (hb1.mono HB.out.size))
      have HT1 := Lib.hid (HT.out.ext hb1)
      clear hb1 c0 y0 y1 y2 y3 HT HB
      go_wp2_with fail
      refine (left_nil _).mono ?_
      rintro e w2 ⟨rfl, rfl⟩
      go_wp2_with fail
      go_roundg 1
      case measure => omega
      case rel => exact ⟨1, by omega, rfl, HT1, HB1⟩
    · have c0 := cell_of_row _ _ 1 _ _ _ HT.out.rw
      have y0 := cell_of_row _ _ 0 _ _ _ HT.out.rp
      have y1 := cell_of_row _ _ 1 _ _ _ HT.out.rp
      have y2 := cell_of_row _ _ 2 _ _ _ HT.out.rp
      have y3 := cell_of_row _ _ 3 _ _ _ HT.out.rp
      simp only [encP, List.getElem?_toArray, List.getElem?_cons_succ, List.getElem?_cons_zero] at c0 y0 y1 y2 y3
      go_wp2_with fail
      refine (put_unmade _ (b + 1) _ _ _ _ _ _ HT.out.un _ _ _ _).mono ?_
      rintro e w1 ⟨rfl, hb1⟩
      have HB1 := Lib.hid (HB.out.trans (hb1.mono HB.out.size))
      have HT1 := Lib.hid (HT.out.ext hb1)
      clear hb1 c0 y0 y1 y2 y3 HT HB
      go_wp2_with fail
      refine (left_unmade _ (b + 1) _ _ _ _ _ _ HT1.out.un).mono ?_
      rintro e w2 ⟨rfl, rfl⟩
      go_wp2_with fail
      go_roundg 0
      case measure => omega
      case rel => exact ⟨2, by omega, rfl, HT1, HB1⟩
    · go_wp2_with fail
      refine (awake_any _).mono ?_
      rintro e w23 ⟨rfl, hb23⟩
      go_wp2_with fail
      go_ret
      exact ⟨rfl, HB.out.trans (hb23.mono HB.out.size)⟩
end Go.Proofs.Ytighlefajekloaa.PngX
