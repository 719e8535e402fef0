/- Package lightwelllaw09: PngOrder. -/
import Derived.Test.YtighlefajekloaaPl
import Derived.Test.YtighlefajekloaaPngZ
import Derived.Deep.OwnRows
set_option linter.unusedVariables false
set_option linter.unusedSimpArgs false
namespace Go.Proofs.Ytighlefajekloaa.PngS
open Go.RowKit Go.Sort Base Low NumSl Bits5 PngM PngB PngO PngZ PngW Qb Qt
theorem wadd (t z : Nat) (c : Int) (h : (z : Int) = (t : Int) + c) (hz : z < 1000000000) : IntKind.i64.wrap ((t : Int) + c) = (z : Int) := by rw [IntKind.wrap_i64]; omega
theorem wsub (t z : Nat) (c : Int) (h : (z : Int) = (t : Int) - c) (hz : z < 1000000000) : IntKind.i64.wrap ((t : Int) - c) = (z : Int) := by rw [IntKind.wrap_i64]; omega
theorem made_at (n j : Nat) (hj : j < n) : (madeCells #[Value.bool false] n)[j]? = some (.bool false) := by
  rw [← Array.getElem?_toList, toList_madeCells_one, List.getElem?_replicate_of_lt hj]
theorem bool_info : ∃ i, Try.prog.info? 4 = some i ∧ i.zero = some (.bool false) ∧ i.size = 1 ∧ i.bytes = 1 := info_parts (by kernel_rfl)
/-- the marks -/
structure Marks (wr : World) (g6 n : Nat) (l : List Nat) (i : Nat) (cs : Array Value) : Prop where
  row : wr.heap[g6]? = some (.cells cs 4)
  size : cs.size = n
  at_ : ∀ j, j < n → cs[j]? = some (.bool (decide (j ∈ l.take i)))
theorem Marks.next {wr : World} {g6 n : Nat} {l : List Nat} {i : Nat} {cs : Array Value} (h : Marks wr g6 n l i cs) (hi : i < l.length) (z : Nat) (hz : z = l[i]) : Marks (wr.setCell ⟨g6, z, none⟩ (.bool true)) g6 n l (i + 1) (cs.setIfInBounds z (.bool true)) := by
  refine ⟨heap_setCell_same wr g6 z cs _ (.bool true) h.row, by rw [Array.size_setIfInBounds]; exact h.size, fun j hj => ?_⟩
  rw [Array.getElem?_setIfInBounds]
  by_cases e : z = j
  · rw [if_pos e, if_pos (by rw [h.size]; omega)]
    congr 2
    symm
    rw [decide_eq_true_iff, List.take_succ_eq_append_getElem hi, List.mem_append]
    right
    rw [← hz, e]; simp
  · rw [if_neg e, h.at_ j hj]
    congr 2
    rw [List.take_succ_eq_append_getElem hi, ← hz]
    apply Bool.eq_iff_iff.2
    simp only [decide_eq_true_iff, List.mem_append, List.mem_singleton]
    constructor
    · exact fun h => .inl h
    · rintro (h | h)
      · exact h
      · exact absurd h.symm e
set_option maxRecDepth 100000 in
set_option maxHeartbeats 4000000 in
theorem order_law (x y : Int) (hx : -9223372036854775808 ≤ x ∧ x ≤ 9223372036854775807) (hy : -9223372036854775808 ≤ y ∧ y ≤ 9223372036854775807) (w : World) : Calls Try.prog 3 #[.int .i64 x, .int .i64 y] w fun e w' => e = .returned (.bool true) ∧ Below w.heap.size w w' := by
  have HPX := Lib.hid (fun w => pick_any x 100 hx.1 hx.2 (by omega) w)
  have HPY := Lib.hid (fun w => pick_any y 100 hy.1 hy.2 (by omega) w)
  have hlx := pick_lt x 100 (by omega)
  have hly := pick_lt y 100 (by omega)
  generalize pick x 100 = kx at HPX hlx
  generalize pick y 100 = ky at HPY hly
  obtain ⟨a, ha⟩ : ∃ a, a = kx + 1 := ⟨_, rfl⟩
  obtain ⟨b, hb⟩ : ∃ b, b = ky + 1 := ⟨_, rfl⟩
  have ha1 : 1 ≤ a ∧ a ≤ 100 := by omega
  have hb1 : 1 ≤ b ∧ b ≤ 100 := by omega
  obtain ⟨n, hn⟩ : ∃ n, n = a * b := ⟨_, rfl⟩
  have hn9 : n ≤ 100 * 100 := by rw [hn]; exact Nat.mul_le_mul ha1.2 hb1.2
  have HN := Lib.hid hn
  have HOR := Lib.hid (order_any a b ha1.1 (by omega) hb1.1 (by omega) w)
  obtain ⟨l, hl⟩ : ∃ l, l = orderL a b := ⟨_, rfl⟩
  have HLL := Lib.hid (show l.length = n by rw [hl, hn]; exact order_len a b)
  have HLT := Lib.hid (show ∀ z ∈ l, z < n by rw [hl, hn]; exact fun z hz => order_lt a b z ha1.1 hb1.1 hz)
  have HNS := Lib.hid (show ∀ i (hi : i < l.length), l[i] ∉ l.take i by rw [hl]; exact fun i hi => not_seen _ (order_nodup a b ha1.1 hb1.1) i hi)
  have HFI := Lib.hid (show ∀ s i, (s = 8 ∨ s = 4 ∨ s = 2 ∨ s = 1) → i < gridN a b s → i < n ∧ l.getD i 0 % a % s = 0 ∧ l.getD i 0 / a % s = 0 by rw [hl, hn]; exact fun s i hs hi => order_first a b s i ha1.1 hb1.1 hs hi)
  rw [← hl] at HOR
  obtain ⟨ib, hib1, hib2, hib3, hib4⟩ := bool_info
  have HIB := Lib.hid (And.intro hib1 (And.intro hib2 (And.intro hib3 hib4)))
  have HMX := Lib.hid (show ib.bytes * n ≤ 281474976710656 by rw [hib4]; omega)
  have HMY := Lib.hid (show n ≤ 9223372036854775807 by omega)
  have e1 : IntKind.i64.wrap (1 + (kx : Int)) = (a : Int) := by rw [IntKind.wrap_i64]; omega
  have e2 : IntKind.i64.wrap (1 + (ky : Int)) = (b : Int) := by rw [IntKind.wrap_i64]; omega
  have en : IntKind.i64.wrap ((a : Int) * (b : Int)) = (n : Int) := by rw [← Int.natCast_mul, ← hn, IntKind.wrap_i64]; omega
  clear hx hy ha hb hn hl hib1 hib2 hib3 hib4
  go_enter Try.func3, Try.ntmps3
  go_wp2_with fail
  refine (HPX.out _).mono ?_
  rintro e w1 ⟨rfl, rfl⟩
  go_wp2_with fail
  refine (HPY.out _).mono ?_
  rintro e w1 ⟨rfl, rfl⟩
  go_wp2_with fail
  refine HOR.out.mono ?_
  rintro e w1 ⟨v, rfl, ho, hb1'⟩
  obtain ⟨ao, no, co, rfl⟩ := ho.slice_
  have hno : no = n := by rw [(nums_len ho.nums).1]; exact HLL.out
  subst hno
  have HO := Lib.hid ho.nums
  have HTY := Lib.hid (own_tyB ho)
  have HB1 := Lib.hid hb1'
  clear ho hb1' HOR HPX HPY e1 e2
  go_upto_region 6 with (refine wpList_make_row _ rfl (.tmp 28) (.tmp 28) 25 rfl 4 ib (.bool false) Try.underlying25 HIB.out.1 HIB.out.2.1 HIB.out.2.2.1 rfl .i64 .i64 no rfl rfl HMX.out HMY.out ?_)
  have hxa := ext_alloc w1 (.cells (madeCells #[Value.bool false] no) 4)
  have hra := heap_alloc_new w1 (.cells (madeCells #[Value.bool false] no) 4)
  obtain ⟨W, hW⟩ : ∃ W, W = w1.alloc (.cells (madeCells #[Value.bool false] no) 4) := ⟨_, rfl⟩
  obtain ⟨g6, hg6⟩ : ∃ g, g = w1.heap.size := ⟨_, rfl⟩
  simp only [← hg6, ← hW] at hxa hra ⊢
  rw [hg6] at hxa
  have HM0 := Lib.hid (show Marks W g6 no l 0 (madeCells #[Value.bool false] no) from ⟨hra, size_madeCells _ _, fun j hj => by rw [made_at no j hj]; simp⟩)
  have HOW := Lib.hid (HO.out.below hxa (Nat.le_refl _))
  have HBW := Lib.hid (HB1.out.trans (hxa.mono HB1.out.size))
  have HSEP := Lib.hid (fun k (e : (Value.slice ao no co).ownBlock = some k) => show ¬ k = g6 from fun h => by have := (HTY.out k e).lt; omega)
  have hwg : w.heap.size ≤ g6 := by rw [hg6]; exact HB1.out.size
  clear hxa hra hW hg6 HO HTY HB1
  go_wp2_with fail
  go_loopg [7] no (fun r v7 wr => ∃ (i : Nat) (cs : Array Value), i + r = no ∧ v7 = .int .i64 (i : Int) ∧ Hid (Marks wr g6 no l i cs) ∧ Hid (Nums .i64 1048576 wr (.slice ao no co) l) ∧ Hid (Below w.heap.size w wr))
  case atStart => exact ⟨0, _, by omega, rfl, HM0, HOW, HBW⟩
  case round =>
    obtain ⟨i, cs, hir, rfl, HM, HO, HB⟩ := hrel
    clear HM0 HOW HBW
    by_cases hin : i < no
    · have d1 : decide (i < no) = true := decide_eq_true hin
      have d1' : decide ((i : Int) < (no : Int)) = true := decide_eq_true (by omega)
      have hil : i < l.length := by rw [HLL.out]; exact hin
      obtain ⟨bo, oo, co', eo, -, hco⟩ := HO.out.cells (by intro e; rw [e] at hil; simp at hil)
      simp only [Value.slice.injEq] at eo
      obtain ⟨rfl, -, -⟩ := eo
      have hci := hco i hil
      obtain ⟨z, hz⟩ : ∃ z, z = l[i]'hil := ⟨_, rfl⟩
      rw [← hz] at hci
      have hzn : z < no := by rw [hz]; exact HLT.out _ (List.getElem_mem hil)
      have hns := HNS.out i hil
      rw [← hz] at hns
      have hcz : wr.cell? ⟨g6, z, none⟩ = some (.bool false) := by
        rw [cell_of_row _ _ z _ _ _ HM.out.row, HM.out.at_ z hzn, decide_eq_false hns]
      have hfz := frozen_of_row wr g6 z _ _ HM.out.row
      have d2 : decide ((z : Int) < 0) = false := decide_eq_false (by omega)
      have d3 : decide ((no : Int) ≤ (z : Int)) = false := decide_eq_false (by omega)
      have d3' : ¬ no ≤ z := by omega
      have e8 : IntKind.i64.wrap ((i : Int) + 1) = ((i + 1 : Nat) : Int) := by rw [IntKind.wrap_i64]; omega
      have HMN := Lib.hid (HM.out.next hil z hz)
      have hk := (Keeps.refl (fun k => k = g6) wr).setCell g6 z (.bool true) (.inl rfl)
      have HON := Lib.hid (HO.out.frame hk (fun k e => HSEP.out k e))
      have HBN := Lib.hid (HB.out.trans (hk.below w.heap.size HB.out.size (fun k e => by rw [e]; exact hwg)))
      clear hco hz hns hk hil
      go_wp2_with fail
      go_roundg (gk - 1)
      case measure => omega
      case rel => exact ⟨i + 1, _, by omega, rfl, HMN, HON, HBN⟩
    · have d1 : decide (i < no) = false := decide_eq_false hin
      have d1' : decide ((i : Int) < (no : Int)) = false := decide_eq_false (by omega)
      obtain rfl : i = no := by omega
      clear HM
      go_upto_region 13 with (fail)
      clear d1 d1' hir hin
      go_loopg [8] 4 (fun r v8 ws => ∃ k s : Nat, k + r = 4 ∧ v8 = .int .i64 (s : Int) ∧ (k = 0 ∧ s = 8 ∨ k = 1 ∧ s = 4 ∨ k = 2 ∧ s = 2 ∨ k = 3 ∧ s = 1 ∨ k = 4 ∧ s = 0) ∧ Hid (Nums .i64 1048576 ws (.slice ao i co) l) ∧ Hid (Below w.heap.size w ws))
      case atStart => exact ⟨0, 8, by omega, rfl, .inl ⟨rfl, rfl⟩, HO, HB⟩
      case round =>
        obtain ⟨k, s, hkr, rfl, hks, HOs, HBs⟩ := hrel
        clear HO HB
        by_cases hk4 : k = 4
        · have hs0 : s = 0 := by omega
          have d4 : decide ((1 : Int) ≤ (s : Int)) = false := decide_eq_false (by omega)
          have d4' : ¬ 1 ≤ s := by omega
          clear hks
          go_wp2_with fail
          refine (awake_any _).mono ?_
          rintro e w9 ⟨rfl, hb9⟩
          go_wp2_with fail
          go_ret
          exact ⟨rfl, HBs.out.trans (hb9.mono HBs.out.size)⟩
        · have hs : s = 8 ∨ s = 4 ∨ s = 2 ∨ s = 1 := by omega
          have d4 : decide ((1 : Int) ≤ (s : Int)) = true := decide_eq_true (by omega)
          have d4' : 1 ≤ s := by omega
          have hs9 : s ≤ 8 := by omega
          have hs0 : ¬ (s : Int) = 0 := by omega
          obtain ⟨p1, hp1⟩ : ∃ p, p = a + s := ⟨_, rfl⟩
          obtain ⟨p2, hp2⟩ : ∃ p, p = a + s - 1 := ⟨_, rfl⟩
          obtain ⟨p3, hp3⟩ : ∃ p, p = (a + s - 1) / s := ⟨_, rfl⟩
          obtain ⟨r1, hr1⟩ : ∃ p, p = b + s := ⟨_, rfl⟩
          obtain ⟨r2, hr2⟩ : ∃ p, p = b + s - 1 := ⟨_, rfl⟩
          obtain ⟨r3, hr3⟩ : ∃ p, p = (b + s - 1) / s := ⟨_, rfl⟩
          obtain ⟨nn, hnn⟩ : ∃ p, p = p3 * r3 := ⟨_, rfl⟩
          have HGN := Lib.hid (show gridN a b s = nn by rw [hnn, hp3, hr3]; rfl)
          have hp39 : p3 ≤ 107 := by rw [hp3]; exact Nat.le_trans (Nat.div_le_self _ _) (by omega)
          have hr39 : r3 ≤ 107 := by rw [hr3]; exact Nat.le_trans (Nat.div_le_self _ _) (by omega)
          have hnn9 : nn ≤ 107 * 107 := by rw [hnn]; exact Nat.mul_le_mul hp39 hr39
          have HP3 := Lib.hid (show (p2 : Int) / (s : Int) = (p3 : Int) by rw [hp2, hp3]; exact (Int.natCast_ediv _ _).symm)
          have HR3 := Lib.hid (show (r2 : Int) / (s : Int) = (r3 : Int) by rw [hr2, hr3]; exact (Int.natCast_ediv _ _).symm)
          have HP4 := Lib.hid (show RowKit.wrap64 (p3 : Int) = (p3 : Int) by unfold RowKit.wrap64; omega)
          have HR4 := Lib.hid (show RowKit.wrap64 (r3 : Int) = (r3 : Int) by unfold RowKit.wrap64; omega)
          have HN4 := Lib.hid (show (p3 : Int) * (r3 : Int) = (nn : Int) by rw [hnn, Int.natCast_mul])
          have HN5 := Lib.hid (show RowKit.wrap64 (nn : Int) = (nn : Int) by unfold RowKit.wrap64; omega)
          have HFS := Lib.hid (fun i hi => HFI.out s i hs (by rw [HGN.out]; exact hi))
          have f1 : (p1 : Int) = (a : Int) + (s : Int) := by omega
          have f2 : (p2 : Int) = (p1 : Int) - 1 := by omega
          have f3 : (r1 : Int) = (b : Int) + (s : Int) := by omega
          have f4 : (r2 : Int) = (r1 : Int) - 1 := by omega
          have u1 : p1 < 1000000000 := by omega
          have u2 : p2 < 1000000000 := by omega
          have u3 : r1 < 1000000000 := by omega
          have u4 : r2 < 1000000000 := by omega
          have e1 : IntKind.i64.wrap ((a : Int) + (s : Int)) = (p1 : Int) := wadd a p1 s f1 u1
          have e2 : IntKind.i64.wrap ((p1 : Int) - 1) = (p2 : Int) := wsub p1 p2 1 f2 u2
          have e3 : IntKind.i64.wrap ((b : Int) + (s : Int)) = (r1 : Int) := wadd b r1 s f3 u3
          have e4 : IntKind.i64.wrap ((r1 : Int) - 1) = (r2 : Int) := wsub r1 r2 1 f4 u4
          clear hp1 hp2 hp3 hr1 hr2 hr3 hnn f1 f2 f3 f4 u1 u2 u3 u4 HGN
          go_upto_region 15 with (fail)
          refine wp_region_quiet_below (by kernel_rfl) (by kernel_rfl) ?_
          repeat (go_big_quiet_step (fail))
          refine wpQuiet_nil ?_
          first | (rintro _ ⟨⟨dq, osq⟩, rfl⟩) | (rintro ⟨dq, osq⟩)
          have hbq := below_regrown wr dq osq
          generalize grow (redrawn wr dq) osq = W2 at *
          have HO2 := Lib.hid (HOs.out.below hbq (Nat.le_refl _))
          have HB2 := Lib.hid (HBs.out.trans (hbq.mono HBs.out.size))
          clear hbq HOs HBs e1 e2 e3 e4
          go_simp
          simp only [HP3.out, HR3.out, HP4.out, HR4.out, HN4.out, HN5.out]
          go_wp2_with fail
          go_loopg [10] nn (fun r v10 wq => ∃ q : Nat, q + r = nn ∧ v10 = .int .i64 (q : Int) ∧ Hid (Nums .i64 1048576 wq (.slice ao i co) l) ∧ Hid (Below w.heap.size w wq))
          case atStart => exact ⟨0, by omega, rfl, HO2, HB2⟩
          case round =>
            obtain ⟨q, hqr, rfl, HOq, HBq⟩ := hrel
            clear HO2 HB2
            by_cases hq : q < nn
            · have d5 : decide (q < nn) = true := decide_eq_true hq
              have d5' : decide ((q : Int) < (nn : Int)) = true := decide_eq_true (by omega)
              obtain ⟨hqn, hm1, hm2⟩ := HFS.out q hq
              have hql : q < l.length := by rw [HLL.out]; exact hqn
              obtain ⟨bo, oo, co', eo, -, hco⟩ := HOq.out.cells (by intro e; rw [e] at hql; simp at hql)
              simp only [Value.slice.injEq] at eo
              obtain ⟨rfl, -, -⟩ := eo
              have hcq := hco q hql
              obtain ⟨z, hz⟩ : ∃ z, z = l.getD q 0 := ⟨_, rfl⟩
              rw [show l[q]'hql = z by rw [hz, List.getD_eq_getElem?_getD, List.getElem?_eq_getElem hql]; rfl] at hcq
              rw [← hz] at hm1 hm2
              have hzn : z < i := by
                have := HLT.out _ (List.getElem_mem hql)
                rw [hz, List.getD_eq_getElem?_getD, List.getElem?_eq_getElem hql]; exact this
              obtain ⟨x', hx'⟩ : ∃ x', x' = z % a := ⟨_, rfl⟩
              obtain ⟨y', hy'⟩ : ∃ y', y' = z / a := ⟨_, rfl⟩
              rw [← hx'] at hm1
              rw [← hy'] at hm2
              have hx9 : x' ≤ z := by rw [hx']; exact Nat.mod_le _ _
              have hy9 : y' ≤ z := by rw [hy']; exact Nat.div_le_self _ _
              have ha0 : ¬ (a : Int) = 0 := by omega
              have ex : (z : Int) % (a : Int) = (x' : Int) := by rw [← Int.natCast_emod, ← hx']
              have ey : (z : Int) / (a : Int) = (y' : Int) := by rw [← Int.natCast_ediv, ← hy']
              have exs : (x' : Int) % (s : Int) = 0 := by rw [← Int.natCast_emod, hm1]; rfl
              have eys : (y' : Int) % (s : Int) = 0 := by rw [← Int.natCast_emod, hm2]; rfl
              have e8 : IntKind.i64.wrap ((q : Int) + 1) = ((q + 1 : Nat) : Int) := by rw [IntKind.wrap_i64]; omega
              have e9 : IntKind.i64.wrap (y' : Int) = (y' : Int) := by rw [IntKind.wrap_i64]; omega
              clear hco hz hx' hy' hm1 hm2 hql
              go_wp2_with fail
              go_roundg (nn - (q + 1))
              case measure => omega
              case rel => exact ⟨q + 1, by omega, rfl, HOq, HBq⟩
            · have d5 : decide (q < nn) = false := decide_eq_false hq
              have d5' : decide ((q : Int) < (nn : Int)) = false := decide_eq_false (by omega)
              obtain ⟨s', hs'⟩ : ∃ s', s' = s / 2 := ⟨_, rfl⟩
              have e2 : (s : Int) / 2 = (s' : Int) := by omega
              have e3 : IntKind.i64.wrap (s' : Int) = (s' : Int) := by rw [IntKind.wrap_i64]; omega
              have HS2 := Lib.hid hs'
              clear hs'
              go_wp2_with fail
              go_roundg (4 - (k + 1))
              case measure => omega
              case rel => exact ⟨k + 1, s', by omega, rfl, by have := HS2.out; omega, HOq, HBq⟩
end Go.Proofs.Ytighlefajekloaa.PngS
