/- The law BitsReads. -/
import Derived.Test.YtadnikpbmjflaaaBits10
import Derived.Deep.CutBlock
import Derived.Deep.QuietTactic
import Derived.BigQuiet
set_option linter.unusedVariables false
set_option linter.unusedSimpArgs false
namespace Go.Proofs.Ytadnikpbmjflaaa.BitsN4
open Go.RowKit BitsM Base Low Bits5 Bits6 BitsW BitsX BitsR BitsG Bits7 Bits8 Bits9 Bits10

theorem below_drewN {B : Nat} {w w' : World} (h : Below B w w') (n : Nat) : Below B w (w'.drewN n) := ⟨h.os, h.tape, h.output, h.size, h.block⟩
set_option maxRecDepth 100000 in
set_option maxHeartbeats 4000000 in
theorem reads_any (u v : Value) (B : List Nat) (l : List Cmd) (w : World) (hu : Nums .u8 256 w u B) (hv : Script w v l) : Calls Try.prog 8 #[u, v] w fun e w' => e = .returned (.bool true) ∧ Below w.heap.size w w' := by
  obtain ⟨a, cap, rfl, hlen⟩ := hv.shape
  have hV := Lib.hid hv
  obtain ⟨ab, capb, rfl, hlb, -, -⟩ := hu.open_
  have hU := Lib.hid hu
  clear hv hu
  by_cases hbig : 500 < B.length
  · go_enter Try.func8, Try.ntmps8
    go_wp2_with fail
    refine (awake_any _).mono ?_
    rintro e w2 ⟨rfl, hb2⟩
    go_wp2_with fail
    go_ret
    exact ⟨rfl, hb2⟩
  · go_enter Try.func8, Try.ntmps8
    go_wp2_with fail
    refine (newReader_rs _ _ _ hU.out (by omega)).mono ?_
    rintro e w1 ⟨g, vr, rfl, h1⟩
    go_wp2_with fail
    have hu1 := hU.out.below h1.below (Nat.le_refl _)
    refine (rnew_any _ _ _ hu1 (by omega)).mono ?_
    rintro e w2 ⟨rv, rfl, hsq, hb2, hrv⟩
    obtain ⟨a3, n3, cap3, rfl⟩ := hsq.sq.slice5
    have hgl := h1.rd.lt
    have hs0 := h1.below.size
    have hs2 := hb2.size
    have hx := ext_alloc w2 (.cells #[.slice a3 n3 cap3, .int .i64 0] 55)
    have hSr : Sr w (w2.alloc (.cells #[.slice a3 n3 cap3, .int .i64 0] 55)) g w2.heap.size vr (.slice a3 n3 cap3) B 0 :=
      ⟨(h1.ext hb2).ext hx, heap_alloc_new _ _, hsq.below hx (Nat.le_refl _), by omega, by omega, fun e => by have := (h1.rd.own.lt _ e).2; omega, fun e => by have := hsq.lt _ e; omega, fun e => by have := hrv _ e; omega⟩
    have hS1 := Lib.hid hSr
    clear hSr hx hrv hsq h1 hu1 hb2
    go_wp2_with fail
    go_loopg [7] l.length (fun r n7 wr => ∃ (i p : Nat), i + r = l.length ∧ i ≤ 100 ∧ n7 = .int .i64 (i : Int) ∧ Sr w wr g w2.heap.size vr (.slice a3 n3 cap3) B p)
    case atStart => exact ⟨0, 0, by omega, by omega, rfl, hS1.out⟩
    case round =>
    obtain ⟨i, p, hir, hi100, rfl, hst⟩ := hrel
    have hSt := Lib.hid hst
    have hp8 : p ≤ 8 * B.length := hst.rs.rd.ok
    clear hst hS1
    by_cases hi : i < l.length ∧ i < 100
    · obtain ⟨hi1, hi2⟩ := hi
      obtain ⟨b, off, cap', e, hb, hc⟩ := hV.out.cells (by intro h0; subst h0; simp at hi1)
      simp only [Value.slice.injEq] at e
      obtain ⟨rfl, -, rfl⟩ := e
      obtain ⟨c0, c1, c2⟩ := hc i hi1
      obtain ⟨c, hcc⟩ : ∃ c, c = l[i] := ⟨_, rfl⟩
      have hok := hV.out.fits _ (List.getElem_mem hi1)
      rw [← hcc] at c0 c1 c2 hok
      have hlow := hSt.out.rs.below
      rw [← hlow.cell hb] at c0 c1 c2
      clear hc
      obtain ⟨K, n, k⟩ := c
      simp only at c0 c1 c2
      obtain ⟨k1, k2, n1, k3, k4⟩ := hok
      simp only at k1 k2 n1 k3 k4
      have hCC := Lib.hid hcc
      clear hcc hlow
      have hXX := Lib.hid (And.intro (hSt.out.ext (ext_alloc wr (.cells #[.int .i64 K, .int .u32 (n : Int), .int .i64 k] 38))) (heap_alloc_new wr (.cells #[.int .i64 K, .int .u32 (n : Int), .int .i64 k] 38)))
      have hgw := hSt.out.rs.rd.lt
      clear hSt
      go_upto_block 2 with (fail)
      go_cut [9, 10, 11, 12] (fun x y m n wc => ∃ (e f : Int) (p4 : Nat), x = .int .i64 e ∧ y = .int .i64 e ∧ m = .int .u32 f ∧ n = .int .u32 f ∧ Sr w wc g w2.heap.size vr (.slice a3 n3 cap3) B p4)
      case first =>
        obtain ⟨hSt0, hO0⟩ := hXX.out
        generalize wr.alloc _ = W at *
        have hSt := Lib.hid hSt0
        have hO := Lib.hid hO0
        clear hXX c0 c1 c2 hSt0 hO0
        have e0 := (cell_of_row _ _ 0 _ _ _ hO.out)
        have e1 := (cell_of_row _ _ 1 _ _ _ hO.out)
        have e2 := (cell_of_row _ _ 2 _ _ _ hO.out)
        simp only [List.getElem?_toArray, List.getElem?_cons_succ, List.getElem?_cons_zero] at e0 e1 e2
        rcases (show K = 1 ∨ K = 2 ∨ K = 3 ∨ K = 4 ∨ K = 5 ∨ K = 6 ∨ (K ≠ 1 ∧ K ≠ 2 ∧ K ≠ 3 ∧ K ≠ 4 ∧ K ≠ 5 ∧ K ≠ 6) from by omega) with rfl | rfl | rfl | rfl | rfl | rfl | hK
        iterate 5
          go_wp2_with fail
          refine (hSt.out.get_all k (by omega)).mono ?_
          rintro e w3 ⟨rfl, hS20, hK2⟩
          clear e0 e1 e2
          have hO2 := (hK2.block _ (lt_of_heap hO.out) (fun e => by have := hSt.out.rs.rd.lt; omega)).trans hO.out
          have e0 := (cell_of_row _ _ 0 _ _ _ hO2)
          have e1 := (cell_of_row _ _ 1 _ _ _ hO2)
          have e2 := (cell_of_row _ _ 2 _ _ _ hO2)
          simp only [List.getElem?_toArray, List.getElem?_cons_succ, List.getElem?_cons_zero] at e0 e1 e2
          have d0 := (cell_of_row _ _ 0 _ _ _ hS20.row)
          have d1 := (cell_of_row _ _ 1 _ _ _ hS20.row)
          simp only [List.getElem?_toArray, List.getElem?_cons_succ, List.getElem?_cons_zero] at d0 d1
          have hS2 := Lib.hid hS20
          clear hS20 hK2 hO2
          go_wp2_with fail
          refine (rget_all a3 n3 cap3 B p w3 hS2.out.sq k (by omega) hp8).mono ?_
          rintro e w4 ⟨rfl, hbl⟩
          clear e0 e1 e2
          have hr3 : w4.heap[w2.heap.size]? = _ := (hbl.block _ (lt_of_heap hS2.out.row)).trans hS2.out.row
          have q0 := (cell_of_row _ _ 0 _ _ _ hr3)
          have q1 := (cell_of_row _ _ 1 _ _ _ hr3)
          have f0 := frozen_of_row _ _ 0 _ _ hr3
          have f1 := frozen_of_row _ _ 1 _ _ hr3
          simp only [List.getElem?_toArray, List.getElem?_cons_succ, List.getElem?_cons_zero] at q0 q1
          have hS4 := Lib.hid (hS2.out.lay hbl)
          clear hr3 hbl d0 d1
          go_wp2_with fail
          go_meet
          case rel => exact ⟨_, _, _, rfl, rfl, rfl, rfl, hS4.out⟩
        · go_wp2_with fail
          refine (hSt.out.align (by omega)).mono ?_
          rintro e w3 ⟨rfl, hS20, hK2⟩
          clear e0 e1 e2
          have hO2 := (hK2.block _ (lt_of_heap hO.out) (fun e => by have := hSt.out.rs.rd.lt; omega)).trans hO.out
          have e0 := (cell_of_row _ _ 0 _ _ _ hO2)
          have e1 := (cell_of_row _ _ 1 _ _ _ hO2)
          have e2 := (cell_of_row _ _ 2 _ _ _ hO2)
          simp only [List.getElem?_toArray, List.getElem?_cons_succ, List.getElem?_cons_zero] at e0 e1 e2
          have d0 := (cell_of_row _ _ 0 _ _ _ hS20.row)
          have d1 := (cell_of_row _ _ 1 _ _ _ hS20.row)
          simp only [List.getElem?_toArray, List.getElem?_cons_succ, List.getElem?_cons_zero] at d0 d1
          have hS2 := Lib.hid hS20
          clear hS20 hK2 hO2
          go_wp2_with fail
          refine (ralignr_any a3 n3 cap3 p w3 (by omega)).mono ?_
          rintro e w4 ⟨rfl, hbl⟩
          clear e0 e1 e2
          have hr3 : w4.heap[w2.heap.size]? = _ := (hbl.block _ (lt_of_heap hS2.out.row)).trans hS2.out.row
          have q0 := (cell_of_row _ _ 0 _ _ _ hr3)
          have q1 := (cell_of_row _ _ 1 _ _ _ hr3)
          have f0 := frozen_of_row _ _ 0 _ _ hr3
          have f1 := frozen_of_row _ _ 1 _ _ hr3
          simp only [List.getElem?_toArray, List.getElem?_cons_succ, List.getElem?_cons_zero] at q0 q1
          have hS4 := Lib.hid (hS2.out.lay hbl)
          clear hr3 hbl d0 d1
          go_wp2_with fail
          go_meet
          case rel => exact ⟨0, 0, up8 p, rfl, rfl, rfl, rfl, hS4.out⟩
        · clear e0 e1 e2
          obtain ⟨m1, m2, m3, m4, m5, m6⟩ := hK
          have b1 : (K == 1) = false := by simpa using m1
          have b2 : (K == 2) = false := by simpa using m2
          have b3 : (K == 3) = false := by simpa using m3
          have b4 : (K == 4) = false := by simpa using m4
          have b5 : (K == 5) = false := by simpa using m5
          have b6 : (K == 6) = false := by simpa using m6
          clear m1 m2 m3 m4 m5 m6
          go_wp2_with fail
          go_meet
          case rel => exact ⟨0, 0, p, rfl, rfl, rfl, rfl, hSt.out⟩
      case rest =>
        obtain ⟨e, f, p4, rfl, rfl, rfl, rfl, hst4⟩ := hcut
        have d1 := (cell_of_row _ _ 1 _ _ _ hst4.row)
        simp only [List.getElem?_toArray, List.getElem?_cons_succ, List.getElem?_cons_zero] at d1
        have hBt := Lib.hid (fun n => (rat_any _ _ _ _ _ _ (hst4.rs.rd.drewN n)).mono (fun e w' (hh : _ ∧ _) => (⟨hh.1, hh.2.symm⟩ : e = _ ∧ w' = _)))
        have hS := Lib.hid (fun n => hst4.ext (below_drewN (Below.refl wc.heap.size wc) n))
        clear hst4 hXX c0 c1 c2
        go_upto_region 22 with (fail)
        go_quiet ((go_at_call 35; exact Calls.quiet_of_same (hBt.out _)))
        go_wp2_with fail
        go_roundg (l.length - (i + 1))
        case measure => omega
        case rel => exact ⟨i + 1, p4, by omega, by omega, rfl, hS.out _⟩
    · have hex : ¬ i < l.length ∨ (i < l.length ∧ i = 100) := by omega
      have hb := Lib.hid hSt.out.rs.below
      rcases hex with h | ⟨h, rfl⟩
      · go_wp2_with fail
        refine (awake_any _).mono ?_
        rintro e w5 ⟨rfl, hb2⟩
        go_wp2_with fail
        go_ret
        exact ⟨rfl, hb.out.trans (hb2.mono hb.out.size)⟩
      · go_wp2_with fail
        refine (awake_any _).mono ?_
        rintro e w5 ⟨rfl, hb2⟩
        go_wp2_with fail
        go_ret
        exact ⟨rfl, hb.out.trans (hb2.mono hb.out.size)⟩
end Go.Proofs.Ytadnikpbmjflaaa.BitsN4
