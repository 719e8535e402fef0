/- Package lightwelllaw09: PngNumbers. Printed by mkpngy.py. -/
import Derived.Test.YtighlefajekloaaPl
import Derived.Test.YtighlefajekloaaPngQ
set_option linter.unusedVariables false
set_option linter.unusedSimpArgs false
namespace Go.Proofs.Ytighlefajekloaa.PngY
open Go.RowKit Go.Sort Base NumSl PngM PngB PngG PngK PngO PngQ PngW SameI
set_option maxRecDepth 100000 in
set_option maxHeartbeats 4000000 in
theorem numbers_any (w : World) : Calls Try.prog 5 #[] w fun e w' => e = .returned (.bool true) ∧ Below w.heap.size w w' := by
  go_enter Try.func5, Try.ntmps5
  go_upto_region 2 with (fail)
  have hb0 := ext_alloc w (.cells #[.int .i64 0, .int .i64 0, .int .i64 (-1), .int .i64 5, .int .i64 5, .int .i64 0, .int .i64 1025, .int .i64 1, .int .i64 1, .int .i64 1025] 38)
  have hr0 := heap_alloc_new w (.cells #[.int .i64 0, .int .i64 0, .int .i64 (-1), .int .i64 5, .int .i64 5, .int .i64 0, .int .i64 1025, .int .i64 1, .int .i64 1, .int .i64 1025] 38)
  obtain ⟨W, hW⟩ : ∃ W, W = w.alloc (.cells #[.int .i64 0, .int .i64 0, .int .i64 (-1), .int .i64 5, .int .i64 5, .int .i64 0, .int .i64 1025, .int .i64 1, .int .i64 1, .int .i64 1025] 38) := ⟨_, rfl⟩
  rw [← hW] at hb0 hr0 ⊢
  obtain ⟨g, hg⟩ : ∃ g, g = w.heap.size := ⟨_, rfl⟩
  have H0 := Lib.hid (show W.heap[g]? = some (.cells #[.int .i64 0, .int .i64 0, .int .i64 (-1), .int .i64 5, .int .i64 5, .int .i64 0, .int .i64 1025, .int .i64 1, .int .i64 1, .int .i64 1025] 38) by rw [hg]; exact hr0)
  have H1 := Lib.hid hb0
  simp only [← hg]
  clear hW hb0 hr0 hg
  go_loopg [18] 5 (fun r n18 wr => ∃ i : Nat, i + r = 5 ∧ n18 = .int .i64 (i : Int) ∧ Hid (wr.heap[g]? = some (.cells #[.int .i64 0, .int .i64 0, .int .i64 (-1), .int .i64 5, .int .i64 5, .int .i64 0, .int .i64 1025, .int .i64 1, .int .i64 1, .int .i64 1025] 38)) ∧ Hid (Below w.heap.size w wr))
  case atStart => exact ⟨0, by omega, rfl, H0, H1⟩
  case round =>
    obtain ⟨i, hir, rfl, HT, HB⟩ := hrel
    clear H0 H1
    rcases (show i = 0 ∨ i = 1 ∨ i = 2 ∨ i = 3 ∨ i = 4 ∨ i = 5 from by omega) with rfl | rfl | rfl | rfl | rfl | rfl
    · have c0 := cell_of_row _ _ 0 _ _ _ HT.out
      have c1 := cell_of_row _ _ 1 _ _ _ HT.out
      simp only [List.getElem?_toArray, List.getElem?_cons_succ, List.getElem?_cons_zero] at c0 c1
      go_upto_region 4 with (fail)
      generalize hW : wr.alloc _ = W4
      have hw4 : Below wr.heap.size wr W4 ∧ W4.heap[wr.heap.size]? = some (.cells #[.int .i64 0, .int .i64 0] 38) := by
        subst hW
        exact ⟨ext_alloc _ _, heap_alloc_new _ _⟩
      obtain ⟨g2, hg2⟩ : ∃ g, g = wr.heap.size := ⟨_, rfl⟩
      simp only [← hg2]
      have HT4 := Lib.hid ((hw4.1.block _ (lt_of_heap HT.out)).trans HT.out)
      have HB4 := Lib.hid (HB.out.trans (hw4.1.mono HB.out.size))
      have hr4 := hw4.2
      rw [← hg2] at hr4
      have y0 : W4.cell? ⟨g2, 0, none⟩ = some (.int .i64 0) := cell_of_row _ _ 0 _ _ _ hr4
      have y1 : W4.cell? ⟨g2, 1, none⟩ = some (.int .i64 0) := cell_of_row _ _ 1 _ _ _ hr4
      clear hW hw4 hg2 c0 c1 HT HB hr4
      go_wp2_with fail
      refine (new_no 0 0 (by omega) _).mono ?_
      rintro e w1 ⟨rfl, rfl⟩
      go_wp2_with fail
      refine (order_no 0 0 (by omega) _).mono ?_
      rintro e w1 ⟨rfl, rfl⟩
      go_wp2_with fail
      go_roundg 4
      case measure => omega
      case rel => exact ⟨1, by omega, rfl, HT4, HB4⟩
    · have c0 := cell_of_row _ _ 2 _ _ _ HT.out
      have c1 := cell_of_row _ _ 3 _ _ _ HT.out
      simp only [List.getElem?_toArray, List.getElem?_cons_succ, List.getElem?_cons_zero] at c0 c1
      go_upto_region 4 with (fail)
      generalize hW : wr.alloc _ = W4
      have hw4 : Below wr.heap.size wr W4 ∧ W4.heap[wr.heap.size]? = some (.cells #[.int .i64 (-1), .int .i64 5] 38) := by
        subst hW
        exact ⟨ext_alloc _ _, heap_alloc_new _ _⟩
      obtain ⟨g2, hg2⟩ : ∃ g, g = wr.heap.size := ⟨_, rfl⟩
      simp only [← hg2]
      have HT4 := Lib.hid ((hw4.1.block _ (lt_of_heap HT.out)).trans HT.out)
      have HB4 := Lib.hid (HB.out.trans (hw4.1.mono HB.out.size))
      have hr4 := hw4.2
      rw [← hg2] at hr4
      have y0 : W4.cell? ⟨g2, 0, none⟩ = some (.int .i64 (-1)) := cell_of_row _ _ 0 _ _ _ hr4
      have y1 : W4.cell? ⟨g2, 1, none⟩ = some (.int .i64 5) := cell_of_row _ _ 1 _ _ _ hr4
      clear hW hw4 hg2 c0 c1 HT HB hr4
      go_wp2_with fail
      refine (new_no (-1) 5 (by omega) _).mono ?_
      rintro e w1 ⟨rfl, rfl⟩
      go_wp2_with fail
      refine (order_no (-1) 5 (by omega) _).mono ?_
      rintro e w1 ⟨rfl, rfl⟩
      go_wp2_with fail
      go_roundg 3
      case measure => omega
      case rel => exact ⟨2, by omega, rfl, HT4, HB4⟩
    · have c0 := cell_of_row _ _ 4 _ _ _ HT.out
      have c1 := cell_of_row _ _ 5 _ _ _ HT.out
      simp only [List.getElem?_toArray, List.getElem?_cons_succ, List.getElem?_cons_zero] at c0 c1
      go_upto_region 4 with (fail)
      generalize hW : wr.alloc _ = W4
      have hw4 : Below wr.heap.size wr W4 ∧ W4.heap[wr.heap.size]? = some (.cells #[.int .i64 5, .int .i64 0] 38) := by
        subst hW
        exact ⟨ext_alloc _ _, heap_alloc_new _ _⟩
      obtain ⟨g2, hg2⟩ : ∃ g, g = wr.heap.size := ⟨_, rfl⟩
      simp only [← hg2]
      have HT4 := Lib.hid ((hw4.1.block _ (lt_of_heap HT.out)).trans HT.out)
      have HB4 := Lib.hid (HB.out.trans (hw4.1.mono HB.out.size))
      have hr4 := hw4.2
      rw [← hg2] at hr4
      have y0 : W4.cell? ⟨g2, 0, none⟩ = some (.int .i64 5) := cell_of_row _ _ 0 _ _ _ hr4
      have y1 : W4.cell? ⟨g2, 1, none⟩ = some (.int .i64 0) := cell_of_row _ _ 1 _ _ _ hr4
      clear hW hw4 hg2 c0 c1 HT HB hr4
      go_wp2_with fail
      refine (new_no 5 0 (by omega) _).mono ?_
      rintro e w1 ⟨rfl, rfl⟩
      go_wp2_with fail
      refine (order_no 5 0 (by omega) _).mono ?_
      rintro e w1 ⟨rfl, rfl⟩
      go_wp2_with fail
      go_roundg 2
      case measure => omega
      case rel => exact ⟨3, by omega, rfl, HT4, HB4⟩
    · have c0 := cell_of_row _ _ 6 _ _ _ HT.out
      have c1 := cell_of_row _ _ 7 _ _ _ HT.out
      simp only [List.getElem?_toArray, List.getElem?_cons_succ, List.getElem?_cons_zero] at c0 c1
      go_upto_region 4 with (fail)
      generalize hW : wr.alloc _ = W4
      have hw4 : Below wr.heap.size wr W4 ∧ W4.heap[wr.heap.size]? = some (.cells #[.int .i64 1025, .int .i64 1] 38) := by
        subst hW
        exact ⟨ext_alloc _ _, heap_alloc_new _ _⟩
      obtain ⟨g2, hg2⟩ : ∃ g, g = wr.heap.size := ⟨_, rfl⟩
      simp only [← hg2]
      have HT4 := Lib.hid ((hw4.1.block _ (lt_of_heap HT.out)).trans HT.out)
      have HB4 := Lib.hid (HB.out.trans (hw4.1.mono HB.out.size))
      have hr4 := hw4.2
      rw [← hg2] at hr4
      have y0 : W4.cell? ⟨g2, 0, none⟩ = some (.int .i64 1025) := cell_of_row _ _ 0 _ _ _ hr4
      have y1 : W4.cell? ⟨g2, 1, none⟩ = some (.int .i64 1) := cell_of_row _ _ 1 _ _ _ hr4
      clear hW hw4 hg2 c0 c1 HT HB hr4
      go_wp2_with fail
      refine (new_no 1025 1 (by omega) _).mono ?_
      rintro e w1 ⟨rfl, rfl⟩
      go_wp2_with fail
      refine (order_no 1025 1 (by omega) _).mono ?_
      rintro e w1 ⟨rfl, rfl⟩
      go_wp2_with fail
      go_roundg 1
      case measure => omega
      case rel => exact ⟨4, by omega, rfl, HT4, HB4⟩
    · have c0 := cell_of_row _ _ 8 _ _ _ HT.out
      have c1 := cell_of_row _ _ 9 _ _ _ HT.out
      simp only [List.getElem?_toArray, List.getElem?_cons_succ, List.getElem?_cons_zero] at c0 c1
      go_upto_region 4 with (fail)
      generalize hW : wr.alloc _ = W4
      have hw4 : Below wr.heap.size wr W4 ∧ W4.heap[wr.heap.size]? = some (.cells #[.int .i64 1, .int .i64 1025] 38) := by
        subst hW
        exact ⟨ext_alloc _ _, heap_alloc_new _ _⟩
      obtain ⟨g2, hg2⟩ : ∃ g, g = wr.heap.size := ⟨_, rfl⟩
      simp only [← hg2]
      have HT4 := Lib.hid ((hw4.1.block _ (lt_of_heap HT.out)).trans HT.out)
      have HB4 := Lib.hid (HB.out.trans (hw4.1.mono HB.out.size))
      have hr4 := hw4.2
      rw [← hg2] at hr4
      have y0 : W4.cell? ⟨g2, 0, none⟩ = some (.int .i64 1) := cell_of_row _ _ 0 _ _ _ hr4
      have y1 : W4.cell? ⟨g2, 1, none⟩ = some (.int .i64 1025) := cell_of_row _ _ 1 _ _ _ hr4
      clear hW hw4 hg2 c0 c1 HT HB hr4
      go_wp2_with fail
      refine (new_no 1 1025 (by omega) _).mono ?_
      rintro e w1 ⟨rfl, rfl⟩
      go_wp2_with fail
      refine (order_no 1 1025 (by omega) _).mono ?_
      rintro e w1 ⟨rfl, rfl⟩
      go_wp2_with fail
      go_roundg 0
      case measure => omega
      case rel => exact ⟨5, by omega, rfl, HT4, HB4⟩
    · clear HT
      go_wp2_with fail
      go_loopg [5] 11 (fun r v5 wa => ∃ a : Nat, 1 ≤ a ∧ a + r = 12 ∧ v5 = .int .i64 (a : Int) ∧ Hid (Below w.heap.size w wa))
      case atStart => exact ⟨1, by omega, by omega, rfl, HB⟩
      case round =>
        obtain ⟨a, ha1, har, rfl, HBa⟩ := hrel
        clear HB
        have ha2 : a ≤ 12 := by omega
        by_cases ha : a < 12
        · have d1 : decide ((a : Int) < 12) = true := decide_eq_true (by omega)
          have d1' : decide (a < 12) = true := decide_eq_true ha
          go_wp2_with fail
          go_loopg [6] 11 (fun r v6 wb => ∃ b : Nat, 1 ≤ b ∧ b + r = 12 ∧ v6 = .int .i64 (b : Int) ∧ Hid (Below w.heap.size w wb))
          case atStart => exact ⟨1, by omega, by omega, rfl, HBa⟩
          case round =>
            obtain ⟨b, hb1, hbr, rfl, HBb⟩ := hrel
            clear HBa
            have hb2 : b ≤ 12 := by omega
            by_cases hb : b < 12
            · have d2 : decide ((b : Int) < 12) = true := decide_eq_true (by omega)
              have d2' : decide (b < 12) = true := decide_eq_true hb
              obtain ⟨n, hn⟩ : ∃ n, n = a * b := ⟨_, rfl⟩
              have hn9 : n ≤ 12 * 12 := by rw [hn]; exact Nat.mul_le_mul ha2 hb2
              have en : IntKind.i64.wrap ((a : Int) * (b : Int)) = (n : Int) := by rw [← Int.natCast_mul, ← hn, IntKind.wrap_i64]; omega
              have HN := Lib.hid hn
              have e5 : IntKind.i64.wrap ((b : Int) + 1) = ((b + 1 : Nat) : Int) := by rw [IntKind.wrap_i64]; omega
              clear hn
              go_wp2_with fail
              refine (new_png wr.heap.size a b ha1 (by omega) hb1 (by omega) wr (Nat.le_refl _)).mono ?_
              rintro e w1 ⟨g, v, gz, s, rfl, hen, hb1', -⟩
              have hrow := hen.row
              rw [← HN.out] at hrow
              have HR := Lib.hid hrow
              have HB1 := Lib.hid (HBb.out.trans (hb1'.mono HBb.out.size))
              clear hen hb1' hrow
              go_wp2_with fail
              refine (left_any w1 g n _ _ _ _ _ HR.out).mono ?_
              rintro e w2 ⟨rfl, rfl⟩
              go_wp2_with fail
              refine (order_any a b ha1 (by omega) hb1 (by omega) _).mono ?_
              rintro e w3 ⟨v3, rfl, ho3, hb3⟩
              have HO3 := Lib.hid ho3
              have HB3 := Lib.hid (HB1.out.trans (hb3.mono HB1.out.size))
              clear ho3 hb3
              go_wp2_with fail
              refine (rorder_any a b ha1 (by omega) hb1 (by omega) _).mono ?_
              rintro e w4 ⟨v4, rfl, ho4, hb4⟩
              have hsi := sameInts_any 1048576 v3 v4 _ _ w4 (HO3.out.nums.below hb4 (Nat.le_refl _)) ho4.nums (by omega)
              rw [order_same a b ha1 (by omega) hb1 (by omega), decide_eq_true rfl] at hsi
              have HSI := Lib.hid hsi
              have HB4 := Lib.hid (HB3.out.trans (hb4.mono HB3.out.size))
              clear ho4 hb4 hsi
              go_wp2_with fail
              refine HSI.out.mono ?_
              rintro e w5 ⟨rfl, hb5⟩
              have HB5 := Lib.hid (HB4.out.trans (hb5.mono HB4.out.size))
              clear hb5
              go_wp2_with fail
              go_roundg (12 - (b + 1))
              case measure => omega
              case rel => exact ⟨b + 1, by omega, by omega, rfl, HB5⟩
            · have d2 : decide ((b : Int) < 12) = false := decide_eq_false (by omega)
              have d2' : decide (b < 12) = false := decide_eq_false hb
              have e5 : IntKind.i64.wrap ((a : Int) + 1) = ((a + 1 : Nat) : Int) := by rw [IntKind.wrap_i64]; omega
              go_wp2_with fail
              go_roundg (12 - (a + 1))
              case measure => omega
              case rel => exact ⟨a + 1, by omega, by omega, rfl, HBb⟩
        · have d1 : decide ((a : Int) < 12) = false := decide_eq_false (by omega)
          have d1' : decide (a < 12) = false := decide_eq_false ha
          go_wp2_with fail
          refine (new_png wr.heap.size 1024 1 (by omega) (by omega) (by omega) (by omega) wr (Nat.le_refl _)).mono ?_
          rintro e w1 ⟨g, v, gz, s, rfl, hen, hb1', -⟩
          have HR := Lib.hid hen.row
          have HB1 := Lib.hid (HBa.out.trans (hb1'.mono HBa.out.size))
          clear hen hb1'
          go_wp2_with fail
          refine (left_any w1 g (1024 * 1) _ _ _ _ _ HR.out).mono ?_
          rintro e w2 ⟨rfl, rfl⟩
          go_wp2_with fail
          refine (order_any 1 1024 (by omega) (by omega) (by omega) (by omega) _).mono ?_
          rintro e w3 ⟨v3, rfl, ho3, hb3⟩
          obtain ⟨a3, n3, c3, rfl⟩ := ho3.slice_
          have hn3 : n3 = 1024 := by rw [(nums_len ho3.nums).1]; exact wide_len
          subst hn3
          have HB3 := Lib.hid (HB1.out.trans (hb3.mono HB1.out.size))
          clear ho3 hb3
          go_wp2_with fail
          refine (awake_any _).mono ?_
          rintro e w9 ⟨rfl, hb9⟩
          go_wp2_with fail
          go_ret
          exact ⟨rfl, HB3.out.trans (hb9.mono HB3.out.size)⟩
end Go.Proofs.Ytighlefajekloaa.PngY
