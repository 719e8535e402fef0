/- The walk of the reference of chapter 11: Of. -/
import Derived.Test.YtmdhekpfkligiaaShaR
set_option linter.unusedVariables false
set_option linter.unusedSimpArgs false
namespace Go.Proofs.Ytmdhekpfkligiaa.ShaQ
open Go.RowKit ShaM Base Num Low ShaW ShaP ShaK ShaB ShaO ShaR

theorem u32s : NumSlice Try.prog 43 33 .u32 4 := numSlice Try.underlying43 (by kernel_rfl)
set_option maxRecDepth 100000 in
theorem k_any (w : World) : Calls Try.prog 18 #[] w fun e w' => e = .returned (.slice (some ⟨w.heap.size, 0, none⟩) 64 64) ∧ w' = w.alloc (.cells (arr .u32 64 kT) 33) := by
  rw [← arr_congr .u32 64 rk kT rk_eq]
  go_enter Try.func18, Try.ntmps18
  go_wp2
  go_ret
  refine ⟨rfl, ?_⟩
  congr 2
  kernel_rfl
theorem h0row : arr .u32 8 h0.at = #[.int .u32 1779033703, .int .u32 3144134277, .int .u32 1013904242, .int .u32 2773480762, .int .u32 1359893119, .int .u32 2600822924, .int .u32 528734635, .int .u32 1541459225] := by kernel_rfl
theorem rref_int (x : Nat) (n : Int) (hx : x < 4294967296) (h1 : 1 ≤ n) (h2 : n ≤ 31) (w : World) :
    Calls Try.prog 20 #[.int .u32 (x : Int), .int .u64 n] w fun e w' => e = .returned (.int .u32 (rot x n.toNat : Nat)) ∧ w = w' := by
  obtain ⟨m, rfl⟩ := Int.eq_ofNat_of_zero_le (show 0 ≤ n by omega)
  exact rref_any x m hx (by omega) (by omega) w
theorem rref_q (x : Nat) (n : Int) (hx : x < 4294967296) (h1 : 1 ≤ n) (h2 : n ≤ 31) (w : World) :
    Calls Try.prog 20 #[.int .u32 (x : Int), .int .u64 n] w fun e w' => e = .returned (.int .u32 (rot x n.toNat : Nat)) ∧ w' = w :=
  (rref_int x n hx h1 h2 w).mono fun _ _ h => ⟨h.1, h.2.symm⟩
theorem word_at (a : Option Addr) (n cap : Nat) (l : List Nat) (w : World) (hv : Nums .u8 256 w (.slice a n cap) l) (q t : Nat) (hat : 64 * q + 4 * t + 4 ≤ l.length) :
    Calls Try.prog 19 #[.slice a n cap, .int .i64 (64 * (q : Int) + 4 * (t : Int))] w fun e w' => e = .returned (.int .u32 (word l (64 * q + 4 * t) : Int)) ∧ ∃ n, w' = w.drewN n := by
  have h := word_any a n cap l w hv (64 * q + 4 * t) hat
  rw [show ((64 * q + 4 * t : Nat) : Int) = 64 * (q : Int) + 4 * (t : Int) from by omega] at h
  exact h
set_option maxRecDepth 100000 in
set_option maxHeartbeats 16000000 in
theorem rof_any (v : Value) (l : List Nat) (w : World) (hv : Nums .u8 256 w v l) (hl : l.length ≤ 100000000000000) :
    Calls Try.prog 8 #[v] w (OfTo w l) := by
  obtain ⟨a0, cap0, rfl, -, -, -⟩ := hv.shape
  have hV := Lib.hid hv
  have hbd := hv.bound
  have hBD := Lib.hid hbd
  clear hv hbd
  go_enter Try.func8, Try.ntmps8
  go_wp2_with fail
  refine (padded_any _ l _ (hV.out.below (ext_alloc _ _) (Nat.le_refl _)) hl).mono ?_
  rintro e w1 ⟨vp, rfl, hop, hb1⟩
  obtain ⟨ap, np, cp, rfl⟩ := hop.slice_
  have hz1 : w1.heap[w.heap.size]? = some (.cells (arr .u8 32 (fun _ => 0)) 23 (0, 0)) := (hb1.block _ (by simp)).trans ((heap_alloc_new _ _).trans (by kernel_rfl))
  have hw1 : Below w.heap.size w w1 := ((Below.refl _ _).alloc (Nat.le_refl _) _).trans (hb1.mono (by simp))
  have hnp := own_len hop
  rw [padded_length] at hnp
  have HNP := Lib.hid hnp
  clear hnp
  have HP1 := Lib.hid hop.nums
  have HZ1 := Lib.hid hz1
  have HW1 := Lib.hid hw1
  clear hop hz1 hw1 hb1
  go_wp2_with fail
  refine (k_any _).mono ?_
  rintro e w2 ⟨rfl, rfl⟩
  generalize hWW : (w1.alloc _).alloc _ = W
  have hH : W.heap[w1.heap.size]? = some (.cells (arr .u32 8 (blocks kT (padded l) h0 0).at) 33 (0, 0)) := by
    rw [← hWW, heap_alloc2_old]
    show _ = some (Obj.cells (arr .u32 8 h0.at) _ _)
    rw [h0row]
  have hK : W.heap[w1.heap.size + 1]? = some (.cells (arr .u32 64 kT) 33 (0, 0)) := by rw [← hWW, heap_alloc2_new]
  have hB2 : Below w1.heap.size w1 W := by rw [← hWW]; exact ((Below.refl _ _).alloc (Nat.le_refl _) _).alloc (by simp) _
  have hsz : w1.heap.size + 2 ≤ W.heap.size := by rw [← hWW]; simp
  have hZ : W.heap[w.heap.size]? = some (.cells (arr .u8 32 (fun _ => 0)) 23 (0, 0)) := (hB2.block _ (lt_of_heap HZ1.out)).trans HZ1.out
  have hwW : Below w.heap.size w W := HW1.out.trans (hB2.mono HW1.out.size)
  have hPn : Nums .u8 256 W (.slice ap np cp) (padded l) := HP1.out.below hB2 (Nat.le_refl _)
  have HPn := Lib.hid hPn
  have HZ := Lib.hid hZ
  have HwW := Lib.hid hwW
  have HK := Lib.hid hK
  have HH := Lib.hid hH
  clear hWW hZ hwW hPn hK hH hB2 HP1 HZ1 HW1
  have hnb : (l.length + 9 + 63) / 64 ≤ 2000000000000 := by omega
  generalize hNB : (l.length + 9 + 63) / 64 = nb at *
  have HNB := Lib.hid hNB
  have hnp2 : np ≤ 128000000000000 := by have := HNP.out; omega
  clear hNB
  go_wp2_with fail
  go_loopg [4, 6] nb (fun r v4 v6 wr => ∃ (q gh : Nat), q + r = nb ∧ v6 = .int .i64 (64 * (q : Int)) ∧ v4 = .slice (some ⟨gh, 0, none⟩) 8 8 ∧ wr.heap[gh]? = some (.cells (arr .u32 8 (blocks kT (padded l) h0 q).at) 33 (0, 0)) ∧ Below W.heap.size W wr)
  case atStart => exact ⟨0, w1.heap.size, by omega, rfl, rfl, HH.out, Below.refl _ _⟩
  case round =>
    obtain ⟨q, gh, hqr, rfl, rfl, hh, hb⟩ := hrel
    clear HH
    have HH := Lib.hid hh
    have HB := Lib.hid hb
    clear hh hb
    by_cases hlt : q < nb
    · have hi1 : 64 * q < np := by have := HNP.out; omega
      have d0 : decide (64 * (q : Int) < (np : Int)) = true := decide_eq_true (by omega)
      go_wp2_with fail
      obtain ⟨wo, rfl⟩ : ∃ wo : World, wo = wr := ⟨_, rfl⟩
      go_loopw [7, 8] (fun v7 v8 wr => ∃ t : Nat, t ≤ 64 ∧ v8 = .int .i64 (t : Int) ∧ Own .u32 4294967296 33 wo.heap.size wr v7 (wl (padded l) (64 * q) t) ∧ Below wo.heap.size wo wr) (fun _ v _ => 64 - (intOf v).toNat)
      case atStart => exact ⟨0, by omega, rfl, Own.nil _ _ _ _ _, Below.refl _ _⟩
      case round =>
        obtain ⟨t, ht, rfl, ho, hbw⟩ := hrel
        obtain ⟨a7, n7, c7, rfl⟩ := ho.slice_
        have hn7 := own_len ho
        rw [wl_length] at hn7
        have HO := Lib.hid ho
        have HBw := Lib.hid hbw
        have HN7 := Lib.hid hn7
        have hn8 : n7 ≤ 64 := by omega
        clear ho hbw hn7
        by_cases htlt : t < 64
        · have d1 : decide ((t : Int) < 64) = true := decide_eq_true (by omega)
          by_cases h16 : t < 16
          · have d2 : decide ((t : Int) < 16) = true := decide_eq_true (by omega)
            have hwd := word_at ap np cp (padded l) wr ((HPn.out.below HB.out (Nat.le_refl _)).below HBw.out (Nat.le_refl _)) q t (by rw [padded_length]; have := HNB.out; omega)
            have hwe : wl (padded l) (64 * q) (t + 1) = wl (padded l) (64 * q) t ++ [word (padded l) (64 * q + 4 * t)] := by rw [wl, if_pos h16]
            have hwlt := word_lt (padded l) HPn.out.bound (64 * q + 4 * t)
            generalize word (padded l) (64 * q + 4 * t) = y at *
            have HWD := Lib.hid hwd
            have HWE := Lib.hid hwe
            clear hwd hwe
            have GA := Lib.hid (show ((wl (padded l) (64 * q) t).length + ([y] : List Nat).length) * 4 ≤ 140737488355328 by rw [wl_length]; simp; omega)
            have GB := Lib.hid (show (wl (padded l) (64 * q) t).length + ([y] : List Nat).length ≤ 140737488355328 by rw [wl_length]; simp; omega)
            go_wp2_with fail
            refine HWD.out.mono ?_
            rintro e w3 ⟨rfl, nd, rfl⟩
            have GC := Lib.hid (show wo.heap.size ≤ ((wr.drewN nd).alloc (.cells #[.int .u32 (y : Int)] 33)).heap.size by have := HBw.out.size; simp; omega)
            have HO3 := Lib.hid (show Own .u32 4294967296 33 wo.heap.size (wr.drewN nd) (.slice a7 n7 c7) (wl (padded l) (64 * q) t) from ⟨HO.out.row, HO.out.bound⟩)
            have HB3 := Lib.hid (show Below wo.heap.size wo (wr.drewN nd) from ⟨HBw.out.os, HBw.out.tape, HBw.out.output, HBw.out.size, HBw.out.block⟩)
            go_wp2_with (((with_reducible refine wpList_append_nums rfl (.tmp 42) (.tmp 49) 43 33 rfl .u32 4294967296 4 wo.heap.size u32s _ (wl (padded l) (64 * q) t) rfl (HO3.out.alloc _) (.slice (some ⟨wr.heap.size, 0, none⟩) 1 1) [y] rfl ?gn3 GA.out GB.out GC.out ?_); (case gn3 => exact nums_one .u32 4294967296 33 (wr.drewN nd) y hwlt); (intro v2 w2 hown2 hgr2; have hb2 := below_grown (HB3.out.alloc HB3.out.size _) (HO3.out.alloc _) hgr2 (Nat.le_refl _) GC.out; obtain ⟨a2, n2, c2, rfl⟩ := hown2.slice_; have H2 := Lib.hid (And.intro hown2 hb2); clear hown2 hgr2 hb2)))
            go_roundw
            case rel => exact ⟨t + 1, by omega, by go_num, by rw [HWE.out]; exact H2.out.1, H2.out.2⟩
            case measure => simp [intOf]; omega
          · have d2 : decide ((t : Int) < 16) = false := decide_eq_false (by omega)
            obtain ⟨g7, c8, e, -, -, -, hc7, -, -⟩ := HO.out.at_ (by rw [wl_length]; omega)
            simp only [Value.slice.injEq] at e
            obtain ⟨rfl, -, -⟩ := e
            have hcc : ∀ j, j < t → wr.cell? ⟨g7, j, none⟩ = some (.int .u32 ((wl (padded l) (64 * q) t).getD j 0 : Int)) := fun j hj => by
              rw [hc7 j (by rw [wl_length]; exact hj), List.getD_eq_getElem?_getD, List.getElem?_eq_getElem (by rw [wl_length]; exact hj)]; rfl
            have hbb : ∀ j, j < t → (wl (padded l) (64 * q) t).getD j 0 < 4294967296 := fun j hj => by
              rw [List.getD_eq_getElem?_getD, List.getElem?_eq_getElem (by rw [wl_length]; exact hj)]; exact HO.out.bound _ (List.getElem_mem _)
            have hwe : wl (padded l) (64 * q) (t + 1) = wl (padded l) (64 * q) t ++ [(smallX ((wl (padded l) (64 * q) t).getD (t - 2) 0) + (wl (padded l) (64 * q) t).getD (t - 7) 0 + smallY ((wl (padded l) (64 * q) t).getD (t - 15) 0) + (wl (padded l) (64 * q) t).getD (t - 16) 0) % 4294967296] := by rw [wl, if_neg h16]
            have cx := hcc (t - 2) (by omega)
            have cy := hcc (t - 15) (by omega)
            have c7' := hcc (t - 7) (by omega)
            have c6 := hcc (t - 16) (by omega)
            have hx := hbb (t - 2) (by omega)
            have hy := hbb (t - 15) (by omega)
            have h7 := hbb (t - 7) (by omega)
            have h6 := hbb (t - 16) (by omega)
            have HWE := Lib.hid hwe
            clear hwe hcc hbb hc7
            generalize (wl (padded l) (64 * q) t).getD (t - 2) 0 = x at *
            generalize (wl (padded l) (64 * q) t).getD (t - 15) 0 = y at *
            generalize (wl (padded l) (64 * q) t).getD (t - 7) 0 = pp at *
            generalize (wl (padded l) (64 * q) t).getD (t - 16) 0 = qq at *
            have ex := xor3 (rot x 17) (rot x 19) (x / 1024) (rot_lt x 17 hx (by omega)) (rot_lt x 19 hx (by omega)) (by omega)
            have ey := xor3 (rot y 7) (rot y 18) (y / 8) (rot_lt y 7 hy (by omega)) (rot_lt y 18 hy (by omega)) (by omega)
            rw [show rot x 17 ^^^ rot x 19 ^^^ x / 1024 = smallX x from rfl, show ((x / 1024 : Nat) : Int) = (x : Int) / 1024 from by omega] at ex
            rw [show rot y 7 ^^^ rot y 18 ^^^ y / 8 = smallY y from rfl, show ((y / 8 : Nat) : Int) = (y : Int) / 8 from by omega] at ey
            have lx := smallX_lt x hx
            have ly := smallY_lt y hy
            obtain ⟨z, hz⟩ : ∃ z, z = (smallX x + pp + smallY y + qq) % 4294967296 := ⟨_, rfl⟩
            rw [← hz] at HWE
            have hzl : z < 4294967296 := by rw [hz]; exact Nat.mod_lt _ (by omega)
            have hv : IntKind.u32.wrap (IntKind.u32.wrap (IntKind.u32.wrap ((smallX x : Int) + (pp : Int)) + (smallY y : Int)) + (qq : Int)) = (z : Int) := by rw [hz, IntKind.wrap_u32, IntKind.wrap_u32, IntKind.wrap_u32]; omega
            clear hz
            have hn9 : t ≤ n7 := by have := HN7.out; omega
            have i2 : (t : Int) - 2 < (n7 : Int) := by omega
            have i15 : (t : Int) - 15 < (n7 : Int) := by omega
            have i7 : (t : Int) - 7 < (n7 : Int) := by omega
            have i16 : (t : Int) - 16 < (n7 : Int) := by omega
            have j2 : (0 : Int) ≤ (t : Int) - 2 := by omega
            have j15 : (0 : Int) ≤ (t : Int) - 15 := by omega
            have j7 : (0 : Int) ≤ (t : Int) - 7 := by omega
            have j16 : (0 : Int) ≤ (t : Int) - 16 := by omega
            go_wp2_with fail
            go_quiet (fail)
            have HO3 := Lib.hid (show Own .u32 4294967296 33 wo.heap.size (wr.drewN nq) (.slice (some ⟨g7, 0, none⟩) n7 c7) (wl (padded l) (64 * q) t) from ⟨HO.out.row, HO.out.bound⟩)
            have HB3 := Lib.hid (show Below wo.heap.size wo (wr.drewN nq) from ⟨HBw.out.os, HBw.out.tape, HBw.out.output, HBw.out.size, HBw.out.block⟩)
            have k7 : (wr.drewN nq).cell? ⟨g7, t - 7, none⟩ = some (.int .u32 (pp : Int)) := c7'
            have k6 : (wr.drewN nq).cell? ⟨g7, t - 16, none⟩ = some (.int .u32 (qq : Int)) := c6
            clear cx cy c7' c6 i2 i15 j2 j15
            generalize wr.drewN nq = W3 at *
            go_wp2_with (go_at_call 20; refine (rref_int _ _ (by omega) (by omega) (by omega) _).mono ?_; rintro e w1 ⟨rfl, rfl⟩)
            have q7 : (7 : Int) ≤ (t : Int) := by omega
            have q16 : (16 : Int) ≤ (t : Int) := by omega
            have r7 : (t : Int) < (n7 : Int) + 7 := by omega
            have r16 : (t : Int) < (n7 : Int) + 16 := by omega
            have m7 : IntKind.i64.wrap ((t : Int) - 7) = (t : Int) - 7 := IntWalk.i64_in _ (by omega)
            have m16 : IntKind.i64.wrap ((t : Int) - 16) = (t : Int) - 16 := IntWalk.i64_in _ (by omega)
            have o7 : ((t : Int) - 7).toNat = t - 7 := by omega
            have o16 : ((t : Int) - 16).toNat = t - 16 := by omega
            have GA := Lib.hid (show ((wl (padded l) (64 * q) t).length + 1) * 4 ≤ 140737488355328 by rw [wl_length]; omega)
            have GB := Lib.hid (show (wl (padded l) (64 * q) t).length + 1 ≤ 140737488355328 by rw [wl_length]; omega)
            have GC := Lib.hid (show wo.heap.size ≤ (W3.drew.alloc (.cells #[.int .u32 (z : Int)] 33)).heap.size by have := HB3.out.size; simp; omega)
            go_region_law ((refine step_append_nums rfl (.tmp 77) (.tmp 93) 43 33 rfl .u32 4294967296 4 wo.heap.size u32s _ _ rfl (HO3.out.drew.alloc _) ⟨W3.heap.size, 0, none⟩ 1 1 [z] rfl (nums_one .u32 4294967296 33 W3.drew z hzl) (by omega) GA.out GB.out GC.out ?_); (intro g cap w2 hown hgr; have H2 := Lib.hid (And.intro hown hgr); clear hown hgr))
            all_goals
              clear m7 m16 o7 o16 q7 q16 r7 r16 i7 i16 j7 j16 k7 k6 ex ey hv
              go_wp2_with fail
              go_roundw
              case rel => exact ⟨t + 1, by omega, by go_num, by rw [HWE.out]; exact H2.out.1, below_grown ((below_drew HB3.out).alloc HB3.out.size _) (HO3.out.drew.alloc _) H2.out.2 (Nat.le_refl _) GC.out⟩
              case measure => simp [intOf]; omega
        · have ht64 : 64 ≤ t := by omega
          have hO := HO.out
          rw [show t = 64 by omega] at hO
          have hn9 : 64 ≤ n7 := by have := HN7.out; omega
          obtain ⟨g7, c8, e, -, -, -, hc7, -, -⟩ := hO.at_ (by rw [wl_length]; omega)
          simp only [Value.slice.injEq] at e
          obtain ⟨rfl, -, -⟩ := e
          have hcc : ∀ j, j < 64 → wr.cell? ⟨g7, j, none⟩ = some (.int .u32 (wf (padded l) (64 * q) j : Int)) := fun j hj => by
            rw [hc7 j (by rw [wl_length]; exact hj)]; unfold wf; rw [List.getD_eq_getElem?_getD, List.getElem?_eq_getElem (by rw [wl_length]; exact hj)]; rfl
          have hbb : ∀ j, j < 64 → wf (padded l) (64 * q) j < 4294967296 := fun j hj => wf_lt _ HPn.out.bound _ j hj
          have hkk : ∀ j, j < 64 → wr.cell? ⟨w1.heap.size + 1, j, none⟩ = some (.int .u32 (kT j : Int)) := fun j hj => by
            have h1 := (HBw.out.block _ (lt_of_heap ((HB.out.block _ (lt_of_heap HK.out)).trans HK.out))).trans ((HB.out.block _ (lt_of_heap HK.out)).trans HK.out)
            exact (cell_of_row _ _ j _ _ _ h1).trans (arr_at _ _ _ _ hj)
          have HCC := Lib.hid (And.intro hcc (And.intro hbb hkk))
          obtain ⟨s0, hs0⟩ : ∃ s, s = blocks kT (padded l) h0 q := ⟨_, rfl⟩
          have hok0 : s0.ok := by rw [hs0]; exact blocks_ok _ _ _ h0_ok _
          rw [← hs0] at HH
          have HS0 := Lib.hid hs0
          have hrow := (HBw.out.block _ (lt_of_heap HH.out)).trans HH.out
          have v0 : wr.cell? ⟨gh, 0, none⟩ = some (.int .u32 (s0.a : Int)) := (cell_of_row _ _ 0 _ _ _ hrow).trans (arr_at _ _ _ _ (by omega))
          have v1 : wr.cell? ⟨gh, 1, none⟩ = some (.int .u32 (s0.b : Int)) := (cell_of_row _ _ 1 _ _ _ hrow).trans (arr_at _ _ _ _ (by omega))
          have v2 : wr.cell? ⟨gh, 2, none⟩ = some (.int .u32 (s0.c : Int)) := (cell_of_row _ _ 2 _ _ _ hrow).trans (arr_at _ _ _ _ (by omega))
          have v3 : wr.cell? ⟨gh, 3, none⟩ = some (.int .u32 (s0.d : Int)) := (cell_of_row _ _ 3 _ _ _ hrow).trans (arr_at _ _ _ _ (by omega))
          have v4 : wr.cell? ⟨gh, 4, none⟩ = some (.int .u32 (s0.e : Int)) := (cell_of_row _ _ 4 _ _ _ hrow).trans (arr_at _ _ _ _ (by omega))
          have v5 : wr.cell? ⟨gh, 5, none⟩ = some (.int .u32 (s0.f : Int)) := (cell_of_row _ _ 5 _ _ _ hrow).trans (arr_at _ _ _ _ (by omega))
          have v6 : wr.cell? ⟨gh, 6, none⟩ = some (.int .u32 (s0.g : Int)) := (cell_of_row _ _ 6 _ _ _ hrow).trans (arr_at _ _ _ _ (by omega))
          have v7 : wr.cell? ⟨gh, 7, none⟩ = some (.int .u32 (s0.h : Int)) := (cell_of_row _ _ 7 _ _ _ hrow).trans (arr_at _ _ _ _ (by omega))
          have HROW := Lib.hid hrow
          have d9 : decide ((t : Int) < 64) = false := decide_eq_false (by omega)
          clear hO HO hc7 hcc hbb hkk hs0 hrow htlt
          go_wp2_with fail
          go_quiet (fail)
          clear v0 v1 v2 v3 v4 v5 v6 v7
          go_wp2_with fail
          obtain ⟨W4, hW4⟩ : ∃ W4 : World, W4 = wr := ⟨_, rfl⟩
          rw [← hW4]
          rw [← hW4] at HCC HBw HROW
          go_loopw [13, 14, 15, 16, 17, 18, 19, 20, 21] (fun x1 x2 x3 x4 x5 x6 x7 x8 x9 wq => ∃ (n : Nat) (s : S8) (nd : Nat), n ≤ 64 ∧ s = rounds kT (wf (padded l) (64 * q)) s0 n ∧ s.ok ∧ x1 = .int .u32 (s.a : Int) ∧ x2 = .int .u32 (s.b : Int) ∧ x3 = .int .u32 (s.c : Int) ∧ x4 = .int .u32 (s.d : Int) ∧ x5 = .int .u32 (s.e : Int) ∧ x6 = .int .u32 (s.f : Int) ∧ x7 = .int .u32 (s.g : Int) ∧ x8 = .int .u32 (s.h : Int) ∧ x9 = .int .i64 (n : Int) ∧ wq = W4.drewN nd) (fun _ _ _ _ _ _ _ _ v _ => 64 - (intOf v).toNat)
          case atStart => exact ⟨0, s0, nq, by omega, rfl, hok0, rfl, rfl, rfl, rfl, rfl, rfl, rfl, rfl, rfl, rfl⟩
          case round =>
            obtain ⟨n, s, nd, hn, hss, hok, rfl, rfl, rfl, rfl, rfl, rfl, rfl, rfl, rfl, rfl⟩ := hrel
            have HSS := Lib.hid hss
            clear hss
            by_cases hnlt : n < 64
            · have d1 : decide ((n : Int) < 64) = true := decide_eq_true (by omega)
              have hniI : (n : Int) < 64 := by omega
              have hni7 : (n : Int) < (n7 : Int) := by omega
              have ck : (W4.drewN nd).cell? ⟨w1.heap.size + 1, n, none⟩ = some (.int .u32 (kT n : Int)) := HCC.out.2.2 n hnlt
              have cw : (W4.drewN nd).cell? ⟨g7, n, none⟩ = some (.int .u32 (wf (padded l) (64 * q) n : Int)) := HCC.out.1 n hnlt
              have hKn := kT_lt n
              have hWn := HCC.out.2.1 n hnlt
              obtain ⟨va, vb, vc, vd, ve, vf, vg, vh⟩ := s
              obtain ⟨ka, kb, kc, kd, ke, kf, kg, kh⟩ := hok
              simp only at ka kb kc kd ke kf kg kh ⊢
              have hnx : (rounds kT (wf (padded l) (64 * q)) s0 (n + 1)) = ShaM.step (kT n) (wf (padded l) (64 * q) n) ⟨va, vb, vc, vd, ve, vf, vg, vh⟩ := by rw [rounds, ← HSS.out]
              have HNX := Lib.hid hnx
              clear hnx
              generalize wf (padded l) (64 * q) n = wn at *
              generalize kT n = kn at *
              have e1 := xor3 (rot ve 6) (rot ve 11) (rot ve 25) (rot_lt ve 6 ke (by omega)) (rot_lt ve 11 ke (by omega)) (rot_lt ve 25 ke (by omega))
              rw [show rot ve 6 ^^^ rot ve 11 ^^^ rot ve 25 = bigE ve from rfl] at e1
              have a1 := xor3 (rot va 2) (rot va 13) (rot va 22) (rot_lt va 2 ka (by omega)) (rot_lt va 13 ka (by omega)) (rot_lt va 22 ka (by omega))
              rw [show rot va 2 ^^^ rot va 13 ^^^ rot va 22 = bigA va from rfl] at a1
              have hch := ch_eq ve vf vg ke kf kg
              have hmj := maj_eq va vb vc ka kb kc
              have l1 := bigE_lt ve ke
              have l2 := bigA_lt va ka
              have l3 := ch_lt ve vf vg ke
              have l4 := maj_lt va vb vc ka kb
              obtain ⟨W5, hW5⟩ : ∃ W5, W5 = W4.drewN nd := ⟨_, rfl⟩
              rw [← hW5] at ck cw ⊢
              have HW5 := Lib.hid hW5
              clear hW5
              go_wp2_with fail
              go_quiet ((go_at_call 20; exact Calls.quiet_of_same (rref_q _ _ (by omega) (by omega) (by omega) _)))
              go_wp2_with (go_at_call 20; refine (rref_int _ _ (by omega) (by omega) (by omega) _).mono ?_; rintro e w1 ⟨rfl, rfl⟩)
              go_roundw
              case rel =>
                have hif : (if IntKind.u32.signed = true then (-1 : Int) else IntKind.u32.max) = IntKind.u32.max := rfl
                refine ⟨n + 1, ShaM.step kn wn ⟨va, vb, vc, vd, ve, vf, vg, vh⟩, nd + nq, by omega, HNX.out.symm, step_ok _ _ _ ⟨ka, kb, kc, kd, ke, kf, kg, kh⟩, ?_, rfl, rfl, rfl, ?_, rfl, rfl, rfl, by go_num, by rw [HW5.out, World.drewN_drewN]⟩
                · rw [hif, hch]
                  refine congrArg (Value.int .u32) ?_
                  show _ = (((one kn wn ⟨va, vb, vc, vd, ve, vf, vg, vh⟩ + two ⟨va, vb, vc, vd, ve, vf, vg, vh⟩) % 4294967296 : Nat) : Int)
                  unfold one two
                  simp only
                  omega
                · rw [hif, hch]
                  refine congrArg (Value.int .u32) ?_
                  show _ = (((vd + one kn wn ⟨va, vb, vc, vd, ve, vf, vg, vh⟩) % 4294967296 : Nat) : Int)
                  unfold one
                  simp only
                  omega
              case measure => simp [intOf]; omega
            · have hn64 : 64 ≤ n := by omega
              have hfin : blocks kT (padded l) h0 (q + 1) = s0.add s := by
                rw [blocks, ← HS0.out, block, HSS.out, show n = 64 by omega]
              have HFIN := Lib.hid hfin
              have HOK := Lib.hid hok
              have v0 : (W4.drewN nd).cell? ⟨gh, 0, none⟩ = some (.int .u32 (s0.a : Int)) := (cell_of_row W4 _ 0 _ _ _ HROW.out).trans (arr_at _ _ _ _ (by omega))
              have v1 : (W4.drewN nd).cell? ⟨gh, 1, none⟩ = some (.int .u32 (s0.b : Int)) := (cell_of_row W4 _ 1 _ _ _ HROW.out).trans (arr_at _ _ _ _ (by omega))
              have v2 : (W4.drewN nd).cell? ⟨gh, 2, none⟩ = some (.int .u32 (s0.c : Int)) := (cell_of_row W4 _ 2 _ _ _ HROW.out).trans (arr_at _ _ _ _ (by omega))
              have v3 : (W4.drewN nd).cell? ⟨gh, 3, none⟩ = some (.int .u32 (s0.d : Int)) := (cell_of_row W4 _ 3 _ _ _ HROW.out).trans (arr_at _ _ _ _ (by omega))
              have v4 : (W4.drewN nd).cell? ⟨gh, 4, none⟩ = some (.int .u32 (s0.e : Int)) := (cell_of_row W4 _ 4 _ _ _ HROW.out).trans (arr_at _ _ _ _ (by omega))
              have v5 : (W4.drewN nd).cell? ⟨gh, 5, none⟩ = some (.int .u32 (s0.f : Int)) := (cell_of_row W4 _ 5 _ _ _ HROW.out).trans (arr_at _ _ _ _ (by omega))
              have v6 : (W4.drewN nd).cell? ⟨gh, 6, none⟩ = some (.int .u32 (s0.g : Int)) := (cell_of_row W4 _ 6 _ _ _ HROW.out).trans (arr_at _ _ _ _ (by omega))
              have v7 : (W4.drewN nd).cell? ⟨gh, 7, none⟩ = some (.int .u32 (s0.h : Int)) := (cell_of_row W4 _ 7 _ _ _ HROW.out).trans (arr_at _ _ _ _ (by omega))
              have hB5 : Below wo.heap.size wo (W4.drewN nd) := ⟨HBw.out.os, HBw.out.tape, HBw.out.output, HBw.out.size, HBw.out.block⟩
              have HB5 := Lib.hid hB5
              clear hfin hok hB5
              generalize W4.drewN nd = W5 at *
              go_wp2_with fail
              go_still_tail 40, (by kernel_rfl)
              change wpList _ _ _ _ _ W5.drew
              clear v0 v1 v2 v3 v4 v5 v6 v7
              go_wp2_with fail
              go_roundg (nb - (q + 1))
              case measure => omega
              case rel =>
                have hbl := HB.out.trans (HB5.out.mono HB.out.size)
                refine ⟨q + 1, W5.heap.size, by omega, by go_num, rfl, ?_, below_drew (hbl.alloc hbl.size _)⟩
                rw [HFIN.out]
                show (W5.alloc _).heap[W5.heap.size]? = _
                rw [heap_alloc_new, arr8]
                have e : ∀ a b : Nat, ((a : Int) + (b : Int)) % 4294967296 = (((a + b) % 4294967296 : Nat) : Int) := fun a b => by omega
                rw [e, e, e, e, e, e, e, e]
                rfl
    · have hqn : q = nb := by omega
      obtain ⟨sf, hsf⟩ : ∃ s, s = blocks kT (padded l) h0 q := ⟨_, rfl⟩
      have hok : sf.ok := by rw [hsf]; exact blocks_ok _ _ _ h0_ok _
      rw [← hsf] at HH
      have hq2 : sf = blocks kT (padded l) h0 ((l.length + 9 + 63) / 64) := by rw [hsf, hqn, HNB.out]
      have HSF := Lib.hid hq2
      have hi1 : np ≤ 64 * q := by have := HNP.out; omega
      have hz2 := (HB.out.block _ (lt_of_heap HZ.out)).trans HZ.out
      have hw2 := HwW.out.trans (HB.out.mono HwW.out.size)
      have HZ2 := Lib.hid hz2
      have HW2 := Lib.hid hw2
      have hgh := lt_of_heap HH.out
      clear hsf hq2 hqn hlt hz2 hw2
      obtain ⟨wo, rfl⟩ : ∃ wo : World, wo = wr := ⟨_, rfl⟩
      go_wp2_with fail
      generalize hWW : wo.alloc _ = W7
      have hO7 : Ou w W7 wo.heap.size (fun j => if j < 0 then sf.at (j / 4) / 2 ^ (24 - 8 * (j % 4)) % 256 else 0) := by
        rw [← hWW]
        refine ⟨(heap_alloc_old _ _ (lt_of_heap HZ2.out)).trans HZ2.out, ?_, lt_of_heap HZ2.out, HW2.out.alloc HW2.out.size _⟩
        rw [heap_alloc_new, show (fun j => if j < 0 then sf.at (j / 4) / 2 ^ (24 - 8 * (j % 4)) % 256 else 0) = (fun _ => 0) from by funext j; simp]
        kernel_rfl
      have hH7 : W7.heap[gh]? = some (.cells (arr .u32 8 sf.at) 33 (0, 0)) := by rw [← hWW]; exact (heap_alloc_old _ _ (lt_of_heap HH.out)).trans HH.out
      have hlow : w.heap.size < wo.heap.size := lt_of_heap HZ2.out
      generalize wo.heap.size = gq at *
      have HO := Lib.hid hO7
      have H7 := Lib.hid hH7
      clear hWW hO7 hH7
      go_loopw [25] (fun v wq => ∃ i : Nat, i ≤ 32 ∧ v = .int .i64 (i : Int) ∧ Ou w wq gq (fun j => if j < i then sf.at (j / 4) / 2 ^ (24 - 8 * (j % 4)) % 256 else 0) ∧ wq.heap[gh]? = some (.cells (arr .u32 8 sf.at) 33 (0, 0))) (fun v _ => 32 - (intOf v).toNat)
      case atStart => exact ⟨0, by omega, rfl, HO.out, H7.out⟩
      case round =>
        obtain ⟨i, hi, rfl, hou, hh7⟩ := hrel
        clear HO H7
        have HO := Lib.hid hou
        have H7 := Lib.hid hh7
        clear hou hh7
        by_cases hilt : i < 32
        · have d1 : decide ((i : Int) < 32) = true := decide_eq_true (by omega)
          have hiI : (i : Int) < 32 := by omega
          have c0 := (cell_of_row _ _ i _ _ _ HO.out.out).trans (arr_at _ _ _ _ hilt)
          have f0 := frozen_of_row _ _ i _ _ HO.out.out
          have c1 := (cell_of_row _ _ (i / 4) _ _ _ H7.out).trans (arr_at _ _ _ _ (by omega))
          have hxl := hok.at (i / 4)
          obtain ⟨x, hx⟩ : ∃ x, x = sf.at (i / 4) := ⟨_, rfl⟩
          rw [← hx] at c1 hxl
          have HX := Lib.hid hx
          clear hx
          have g1 : (i : Int) / 4 < 8 := by omega
          have g2 : (0 : Int) ≤ (i : Int) / 4 := by omega
          have g3 : ((i : Int) / 4).toNat = i / 4 := by omega
          have g4 : (0 : Int) ≤ 24 - 8 * ((i : Int) % 4) := by omega
          have g5 : 24 - 8 * ((i : Int) % 4) ≤ 24 := by omega
          go_wp2_with fail
          go_roundw
          case rel =>
            have e : (x : Int) / 2 ^ (24 - 8 * (i % 4)) % 256 = ((x / 2 ^ (24 - 8 * (i % 4)) % 256 : Nat) : Int) := by
              rw [show (x : Int) / 2 ^ (24 - 8 * (i % 4)) = ((x / 2 ^ (24 - 8 * (i % 4)) : Nat) : Int) from by simp]; omega
            rw [e]
            refine ⟨i + 1, by omega, by go_num, (HO.out.set i _).congr (fun j hj => ?_), ?_⟩
            · rw [HX.out]
              by_cases h : j = i
              · subst h; rw [if_pos rfl, if_pos (by omega)]
              · rw [if_neg h]
                by_cases h2 : j < i
                · rw [if_pos h2, if_pos (by omega)]
                · rw [if_neg h2, if_neg (by omega)]
            · rw [heap_setCell_other _ _ _ _ (by simp; omega)]; exact H7.out
          case measure => simp [intOf]; omega
        · have hi32 : 32 ≤ i := by omega
          have hO8 := HO.out.congr (G := fun i => (ShaO.hash l).getD i 0) (fun j hj => by
            unfold ShaO.hash hashBytes
            rw [if_pos (by omega), ← HSF.out, List.getD_eq_getElem?_getD, List.getElem?_map, List.getElem?_range hj]; rfl)
          clear HO
          have HO := Lib.hid hO8
          clear hO8
          generalize hfin : (fun i => (ShaO.hash l).getD i 0) = fin at *
          have HF := Lib.hid hfin
          clear hfin
          have s12 := Lib.hid (show (Try.prog.info? 23).map (·.size) = some (arr .u8 32 fin).size by rw [size_32, arr_size])
          have s13 : Hid ((arr .u8 32 (fun _ => 0)).size = (arr .u8 32 fin).size) := Lib.hid (by rw [arr_size, arr_size])
          go_wp2_with (first
            | (with_reducible (refine wpList_load_row rfl 23 (.tmp 24) rfl gq rfl 23 _ _ _ HO.out.out Try.underlying23 rfl s12.out ?_))
            | (with_reducible (refine wpList_store_arr rfl 23 (.tmp 2) (.tmp 243) rfl w.heap.size (arr .u8 32 fin) rfl rfl 23 _ HO.out.hz s12.out s13.out (arr_one _ _ _) rfl ?_)))
          refine bodyPost_ret (results_cell_row rfl _ _ w.heap.size 23 _ _ _ rfl (setRow_heap _ _ _ _ _ _ HO.out.hz) Try.underlying23 rfl s12.out) rfl ?_
          exact ⟨by rw [HF.out], below_setRow_new HO.out.below (Nat.le_refl _) _⟩
end Go.Proofs.Ytmdhekpfkligiaa.ShaQ
