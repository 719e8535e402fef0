/- The walks of package sums and of its reference: each call answers what SumsM computes. -/
import Derived.Test.YtighlefajekloaaRows
import Derived.Test.YtighlefajekloaaSumsM
import Derived.Test.YtighlefajekloaaBase
set_option linter.unusedVariables false
set_option linter.unusedSimpArgs false
namespace Go.Proofs.Ytighlefajekloaa.SumsW
open Go.RowKit SumsM Base

def tabCells (k : Nat) : Array Value := ((List.range 256).map fun i => Value.int .u32 (if i < k then (crcByte i : Int) else 0)).toArray
theorem tab_start : tabCells 0 = Try.zeroCells95 := by kernel_rfl
theorem tab_next (k : Nat) (h : k < 256) : (tabCells k).setIfInBounds k (.int .u32 (crcByte k : Int)) = tabCells (k + 1) := by
  apply Array.ext_getElem?
  intro j
  simp only [tabCells, Array.getElem?_setIfInBounds, List.size_toArray, List.length_map, List.length_range, List.getElem?_toArray, List.getElem?_map]
  by_cases hj : k = j
  · subst hj; simp [h]
  · rw [if_neg hj]
    by_cases h2 : j < 256
    · simp only [List.getElem?_range h2, Option.map_some]
      congr 2
      have : (j < k) ↔ (j < k + 1) := by omega
      simp only [this]
    · simp [List.getElem?_eq_none (show (List.range 256).length ≤ j from by simp; omega)]
theorem tab_size (k : Nat) : (tabCells k).size = 256 := by simp [tabCells]
theorem tab_at (k : Nat) (h : k < 256) : (tabCells k)[k]? = some (.int .u32 0) := by
  unfold tabCells; simp [h]
theorem tab_full (i : Nat) (h : i < 256) : (tabCells 256)[i]? = some (.int .u32 (crcByte i : Int)) := by
  unfold tabCells; simp [h]
theorem tab_one (k : Nat) : ∀ v ∈ (tabCells k).toList, v.oneCell' = true := by
  intro v hv
  unfold tabCells at hv
  simp only [List.mem_map] at hv
  obtain ⟨i, _, rfl⟩ := hv
  rfl
attribute [irreducible] tabCells

theorem crcBit_one (c : Nat) (h : c % 2 = 1) (hc : c < 4294967296) : bits BinOp.xor IntKind.u32 ((c : Int) / 2) 3988292384 = (crcBit c : Int) := by
  unfold crcBit; rw [if_pos h]
  exact u32_xor_nat (c / 2) 3988292384 (by omega) (by omega)
theorem crcBit_nil (c : Nat) (h : ¬ c % 2 = 1) : (c : Int) / 2 = (crcBit c : Int) := by
  unfold crcBit; rw [if_neg h]; omega
theorem and_one (c : Nat) (hc : c < 4294967296) : bits BinOp.and IntKind.u32 (c : Int) 1 = (c % 2 : Nat) := by
  have := u32_and_nat c 1 hc (by omega); rw [nat_mask1] at this; exact this

theorem size_tab : (Try.prog.info? 95).map (·.size) = some 256 := by kernel_rfl

set_option maxRecDepth 100000 in
set_option maxHeartbeats 1000000 in
theorem table_any (w : World) :
    Calls Try.prog 54 #[] w fun e w' => e = .returned (.agg (tabCells 256)) ∧ Below w.heap.size w w' := by
  have hZ : (Try.zeroCells95).size = 256 := by rw [← tab_start, tab_size]
  go_enter Try.func54, Try.ntmps54
  go_wp2
  go_loopw [4] (fun i wr => ∃ k : Nat, k ≤ 256 ∧ i = .int .i64 k ∧ wr.heap[w.heap.size]? = some (.cells Try.zeroCells95 95 (0, 0)) ∧ wr.heap[w.heap.size + 1]? = some (.cells (tabCells k) 95 (0, 0)) ∧ Below w.heap.size w wr) (fun i _ => 256 - (intOf i).toNat)
  case atStart => exact ⟨0, Nat.zero_le _, rfl, heap_alloc2_old _ _ _, by rw [tab_start]; exact heap_alloc2_new _ _ _, ((Below.refl _ _).alloc (Nat.le_refl _) _).alloc (by simp) _⟩
  case round =>
    obtain ⟨k, hk, rfl, hr, ht, hbel⟩ := hrel
    have hT := Lib.hid ht
    have hR := Lib.hid hr
    clear ht hr
    by_cases hlt : k < 256
    · have c1 := (cell_of_row _ _ k _ _ _ hT.out).trans (tab_at k hlt)
      have c2 := frozen_of_row _ _ k _ _ hT.out
      go_wp2
      go_loop [3, 9] (fun c i => ∃ j : Nat, j ≤ 8 ∧ i = .int .i64 j ∧ c = .int .u32 (crcBits j k : Nat)) (fun _ i => 8 - (intOf i).toNat)
      case atStart => exact ⟨0, Nat.zero_le _, rfl, rfl⟩
      case round =>
        obtain ⟨j, hj, rfl, rfl⟩ := hrel
        have hb := crcBits_lt j k (by omega)
        have hs := Lib.hid (crcBits_snoc j k)
        by_cases hjlt : j < 8
        · have ha := and_one (crcBits j k) hb
          by_cases hodd : crcBits j k % 2 = 1
          · have hm : ((crcBits j k % 2 : Nat) : Int) = 1 := by omega
            rw [hm] at ha
            have h1 := crcBit_one (crcBits j k) hodd hb
            rw [← hs.out] at h1
            clear hodd hm
            go_wp2
            go_round
            case rel => exact ⟨j + 1, by omega, by go_num, rfl⟩
            case measure => simp [intOf]; omega
          · have hm : ((crcBits j k % 2 : Nat) : Int) = 0 := by omega
            rw [hm] at ha
            have h1 := crcBit_nil (crcBits j k) hodd
            rw [← hs.out] at h1
            clear hodd hm
            go_wp2
            go_round
            case rel => exact ⟨j + 1, by omega, by go_num, rfl⟩
            case measure => simp [intOf]; omega
        · obtain rfl : j = 8 := by omega
          go_wp2
          go_roundw
          case rel =>
            refine ⟨k + 1, by omega, by go_num, ?_, ?_, hbel.setCell (by simp) _⟩
            · rw [heap_setCell_other _ _ _ _ (by simp)]; exact hR.out
            · rw [heap_setCell_same _ _ _ _ _ _ hT.out]; rw [← tab_next k hlt]; rfl
          case measure => simp [intOf]; omega
    · have hk2 : tabCells k = tabCells 256 := by rw [show k = 256 from by omega]
      rw [hk2] at hT
      have s1 : (Try.prog.info? 95).map (·.size) = some (tabCells 256).size := by rw [size_tab, tab_size]
      have s2 : (Try.zeroCells95).size = (tabCells 256).size := by rw [hZ, tab_size]
      have s1 := Lib.hid s1
      clear hk2
      go_wp2_with (first
        | (with_reducible (refine wpList_load_row rfl 95 (.tmp 1) rfl (w.heap.size + 1) rfl 95 _ _ _ hT.out Try.underlying95 rfl s1.out ?_))
        | (with_reducible (refine wpList_store_arr rfl 95 (.tmp 0) (.tmp 24) rfl w.heap.size (tabCells 256) rfl rfl 95 _ hR.out s1.out s2 (tab_one 256) rfl ?_)))
      refine bodyPost_ret (results_cell_row rfl _ _ w.heap.size 95 _ _ _ rfl (setRow_heap _ _ _ _ _ _ hR.out) Try.underlying95 rfl s1.out) rfl ⟨rfl, below_setRow_new hbel (Nat.le_refl _) _⟩

theorem xor_round (c t : Nat) (hc : c < 4294967296) (ht : t < 4294967296) : bits BinOp.xor IntKind.u32 ((c : Int) / 256) (t : Int) = ((c / 256 ^^^ t : Nat) : Int) := by
  exact u32_xor_nat (c / 256) t (by omega) ht
theorem not_u32 (c : Nat) (hc : c ≤ 4294967295) : bits BinOp.xor IntKind.u32 IntKind.u32.max (c : Int) = ((4294967295 - c : Nat) : Int) := by
  have h := u32_xor_nat 4294967295 c (by omega) (by omega)
  have e : 4294967295 ^^^ c = 4294967295 - c := by
    apply Nat.eq_of_testBit_eq
    intro i
    rw [Nat.testBit_xor, show (4294967295 : Nat) = 2 ^ 32 - 1 from rfl, Nat.testBit_two_pow_sub_one]
    rw [show 2 ^ 32 - 1 - c = 2 ^ 32 - (c + 1) from by omega, Nat.testBit_two_pow_sub_succ (by omega)]
    by_cases hi : i < 32
    · simp [hi]
    · have : c.testBit i = false := Nat.testBit_lt_two_pow (Nat.lt_of_lt_of_le (show c < 2 ^ 32 by omega) (Nat.pow_le_pow_right (by omega) (by omega)))
      simp [hi, this]
  rw [e] at h; exact h

set_option maxRecDepth 100000 in
set_option maxHeartbeats 1000000 in
theorem crc_any (sum : Nat) (hs : sum ≤ 4294967295) (v : Value) (l : List Nat) (w : World) (hv : Nums .u8 256 w v l) :
    Calls Try.prog 41 #[.int .u32 (sum : Int), v] w fun e w' => e = .returned (.int .u32 (crc sum l : Nat)) ∧ Below w.heap.size w w' := by
  have hnot := not_u32 sum hs
  have hZ : (Try.zeroCells95).size = (tabCells 256).size := by rw [← tab_start, tab_size, tab_size]
  have s1 := Lib.hid (show (Try.prog.info? 95).map (·.size) = some (tabCells 256).size by rw [size_tab, tab_size])
  obtain ⟨a, cap, rfl, hlen, hbyte, hcell⟩ := hv.open_
  by_cases hl : l = []
  · subst hl
    have h0 : (([] : List Nat).length : Int) = 0 := rfl
    go_enter Try.func41, Try.ntmps41
    go_wp2
    go_ret
    exact ⟨by simp [crc], Below.refl _ _⟩
  · have hpos : 0 < l.length := List.length_pos_iff.2 hl
    have hne : ((l.length : Int) == 0) = false := by simp; omega
    clear hl
    go_enter Try.func41, Try.ntmps41
    go_wp2_with (first
      | (go_at_call 54; refine (table_any _).mono ?_; rintro e w1 ⟨rfl, hb1⟩)
      | (with_reducible (refine wpList_store_arr rfl 95 (.tmp 5) (.tmp 13) rfl w1.heap.size (tabCells 256) rfl rfl 95 _ (heap_alloc_new _ _) s1.out hZ (tab_one 256) rfl ?_)))
    have hr2 := heap_alloc_new w1 (.cells Try.zeroCells95 95)
    have hbel : Below w.heap.size w ((w1.alloc (.cells Try.zeroCells95 95)).setRow w1.heap.size (tabCells 256)) := below_setRow_new (hb1.alloc hb1.size _) hb1.size _
    have htab : ((w1.alloc (.cells Try.zeroCells95 95)).setRow w1.heap.size (tabCells 256)).heap[w1.heap.size]? = some (.cells (tabCells 256) 95 (0, 0)) := setRow_heap _ _ _ _ _ _ hr2
    clear hr2 hb1
    generalize (w1.alloc (.cells Try.zeroCells95 95)).setRow w1.heap.size (tabCells 256) = w2 at *
    have hT := Lib.hid htab
    have hC := Lib.hid hcell
    clear htab hcell hZ s1
    go_loop [6, 18] (fun c i => ∃ k : Nat, k ≤ l.length ∧ i = .int .i64 k ∧ c = .int .u32 (crcFold (4294967295 - sum) (l.take k) : Nat)) (fun _ i => l.length - (intOf i).toNat)
    case atStart => exact ⟨0, Nat.zero_le _, rfl, rfl⟩
    case round =>
      obtain ⟨k, hk, rfl, rfl⟩ := hrel
      have hb := crcFold_lt (l.take k) (4294967295 - sum) (by omega) (fun x hx => hbyte x (List.mem_of_mem_take hx))
      by_cases hlt : k < l.length
      · obtain ⟨b, off, rfl, hbw, hc⟩ := hC.out k hlt
        have c1 := (hbel.cell (p := ⟨b, off + k, none⟩) hbw).trans (hc k hlt)
        have hS := Lib.hid (show crcFold (4294967295 - sum) (l.take (k + 1)) = crcFold (4294967295 - sum) (l.take k) / 256 ^^^ crcByte (crcFold (4294967295 - sum) (l.take k) % 256 ^^^ l[k]) from crcFold_snoc (4294967295 - sum) l k hlt)
        have hby := hbyte l[k] (List.getElem_mem hlt)
        clear hc hbyte
        generalize crcFold (4294967295 - sum) (l.take k) = c at *
        generalize hx : l[k] = x at *
        have e1 : bits BinOp.xor IntKind.u8 ((c : Int) % 256) (x : Int) = ((c % 256 ^^^ x : Nat) : Int) := u8_xor_nat (c % 256) x (by omega) hby
        have hj : c % 256 ^^^ x < 256 := Nat.xor_lt_two_pow (n := 8) (by omega) hby
        have c2 := (cell_of_row _ _ (c % 256 ^^^ x) _ _ _ hT.out).trans (tab_full _ hj)
        have e2 := xor_round c (crcByte (c % 256 ^^^ x)) hb (crcByte_lt _ (by omega))
        clear hx
        generalize c % 256 ^^^ x = j at *
        go_wp2
        go_round
        case rel => exact ⟨k + 1, by omega, by go_num, by rw [hS.out]⟩
        case measure => simp [intOf]; omega
      · have hk2 : l.take k = l := List.take_of_length_le (by omega)
        have hfin : crc sum l = 4294967295 - crcFold (4294967295 - sum) l := by
          unfold crc; rw [if_neg (by intro h; subst h; simp at hpos)]
        have hF := Lib.hid hfin
        clear hfin
        rw [hk2] at hb ⊢
        have hn2 := not_u32 (crcFold (4294967295 - sum) l) (by omega)
        clear hk2 hbyte
        generalize crcFold (4294967295 - sum) l = c at *
        go_wp2
        go_ret
        exact ⟨by rw [hF.out]; rfl, hbel⟩
theorem crcBit_xor' (c : Nat) (h : c % 2 = 1) (hc : c < 4294967296) : bits BinOp.xor IntKind.u32 ((c : Int) / 2) 3988292384 = (crcBit c : Int) := crcBit_one c h hc

set_option maxRecDepth 100000 in
set_option maxHeartbeats 1000000 in
theorem refCrc_any (sum : Nat) (hs : sum ≤ 4294967295) (v : Value) (l : List Nat) (w : World) (hv : Nums .u8 256 w v l) :
    Calls Try.prog 48 #[.int .u32 (sum : Int), v] w fun e w' => e = .returned (.int .u32 (crcRef sum l : Nat)) ∧ w = w' := by
  obtain ⟨a, cap, rfl, hlen, hbyte, hcell⟩ := hv.open_
  have hC := Lib.hid hcell
  clear hcell
  have e0 : (4294967295 : Int) - (sum : Int) = ((4294967295 - sum : Nat) : Int) := by omega
  go_enter Try.func48, Try.ntmps48
  go_wp2
  go_loop [5, 6] (fun c i => ∃ k : Nat, k ≤ l.length ∧ i = .int .i64 k ∧ c = .int .u32 (crcRefFold (4294967295 - sum) (l.take k) : Nat)) (fun _ i => l.length - (intOf i).toNat)
  case atStart => exact ⟨0, Nat.zero_le _, rfl, rfl⟩
  case round =>
    obtain ⟨k, hk, rfl, rfl⟩ := hrel
    have hb : crcRefFold (4294967295 - sum) (l.take k) < 4294967296 := by rw [← crcFold_eq]; exact crcFold_lt (l.take k) (4294967295 - sum) (by omega) (fun x hx => hbyte x (List.mem_of_mem_take hx))
    by_cases hlt : k < l.length
    · obtain ⟨b, off, rfl, hbw, hc⟩ := hC.out k hlt
      have c1 := hc k hlt
      have hS := Lib.hid (crcRefFold_snoc (4294967295 - sum) l k hlt)
      have hby := hbyte l[k] (List.getElem_mem hlt)
      clear hc hbyte
      generalize crcRefFold (4294967295 - sum) (l.take k) = c at *
      generalize hx : l[k] = x at *
      have e1 : bits BinOp.xor IntKind.u32 (c : Int) (x : Int) = ((c ^^^ x : Nat) : Int) := u32_xor_nat c x hb (by omega)
      have hj : c ^^^ x < 4294967296 := Nat.xor_lt_two_pow (n := 32) hb (by omega)
      clear hx
      generalize c ^^^ x = d at *
      go_wp2
      go_loop [5, 7] (fun c i => ∃ j : Nat, j ≤ 8 ∧ i = .int .i64 j ∧ c = .int .u32 (crcBits j d : Nat)) (fun _ i => 8 - (intOf i).toNat)
      case atStart => exact ⟨0, Nat.zero_le _, rfl, rfl⟩
      case round =>
        obtain ⟨j, hj8, rfl, rfl⟩ := hrel
        have hb2 := crcBits_lt j d hj
        have hs2 := Lib.hid (crcBits_snoc j d)
        by_cases hjlt : j < 8
        · by_cases hodd : crcBits j d % 2 = 1
          · have h1 := crcBit_one (crcBits j d) hodd hb2
            rw [← hs2.out] at h1
            have ho2 : (((crcBits j d : Nat) : Int) % 2 == 1) = true := by simp; omega
            clear hodd
            go_wp2
            go_round
            case rel => exact ⟨j + 1, by omega, by go_num, rfl⟩
            case measure => simp [intOf]; omega
          · have h1 := crcBit_nil (crcBits j d) hodd
            rw [← hs2.out] at h1
            have ho2 : (((crcBits j d : Nat) : Int) % 2 == 1) = false := by simp; omega
            clear hodd
            go_wp2
            go_round
            case rel => exact ⟨j + 1, by omega, by go_num, rfl⟩
            case measure => simp [intOf]; omega
        · obtain rfl : j = 8 := by omega
          go_wp2
          go_round
          case rel => exact ⟨k + 1, by omega, by go_num, by rw [hS.out]; rfl⟩
          case measure => simp [intOf]; omega
    · have hk2 : l.take k = l := List.take_of_length_le (by omega)
      have hF := Lib.hid (show crcRef sum l = 4294967295 - crcRefFold (4294967295 - sum) l from rfl)
      rw [hk2] at hb ⊢
      clear hk2 hbyte
      generalize crcRefFold (4294967295 - sum) l = c at *
      have e1 : (4294967295 : Int) - (c : Int) = ((4294967295 - c : Nat) : Int) := by omega
      go_wp2
      go_ret
      exact ⟨by rw [hF.out]; rfl, rfl⟩

theorem and_ffff (c : Nat) (hc : c ≤ 4294967295) : bits BinOp.and IntKind.u32 (c : Int) 65535 = ((c % 65536 : Nat) : Int) := by
  have h := u32_and_nat c 65535 (by omega) (by omega)
  have e : c &&& 65535 = c % 65536 := Nat.and_two_pow_sub_one_eq_mod c 16
  rw [e] at h; exact h
theorem or_low (x y : Nat) (hx : x < 65521) (hy : y < 65521) : bits BinOp.or IntKind.u32 ((y : Int) * 65536) (x : Int) = ((y * 65536 + x : Nat) : Int) := by
  have h := u32_or_nat (y * 65536) x (by omega) (by omega)
  rw [nat_join 16 (y * 65536) x (by omega) (by omega)] at h
  exact h

set_option maxRecDepth 100000 in
set_option maxHeartbeats 1000000 in
theorem adler_any (sum : Nat) (hs : sum ≤ 4294967295) (v : Value) (l : List Nat) (w : World) (hv : Nums .u8 256 w v l) :
    Calls Try.prog 36 #[.int .u32 (sum : Int), v] w fun e w' => e = .returned (.int .u32 (adler sum l : Nat)) ∧ w = w' := by
  obtain ⟨a, cap, rfl, hlen, hbyte, hcell⟩ := hv.open_
  have hC := Lib.hid hcell
  have ha := and_ffff sum hs
  clear hcell
  go_enter Try.func36, Try.ntmps36
  go_wp2
  go_loop [5, 6, 17] (fun x y i => ∃ k : Nat, k ≤ l.length ∧ i = .int .i64 k ∧ x = .int .u32 ((adFold (adStart sum) (l.take k)).1 : Nat) ∧ y = .int .u32 ((adFold (adStart sum) (l.take k)).2 : Nat)) (fun _ _ i => l.length - (intOf i).toNat)
  case atStart => exact ⟨0, Nat.zero_le _, rfl, rfl, rfl⟩
  case round =>
    obtain ⟨k, hk, rfl, rfl, rfl⟩ := hrel
    obtain ⟨hb1, hb2⟩ := ad_lt sum (l.take k)
    by_cases hlt : k < l.length
    · obtain ⟨b, off, rfl, hbw, hc⟩ := hC.out k hlt
      have c1 := hc k hlt
      have hS := Lib.hid (adFold_snoc (adStart sum) l k hlt)
      have hby := hbyte l[k] (List.getElem_mem hlt)
      clear hc hbyte ha
      generalize adFold (adStart sum) (l.take k) = p at *
      generalize hx : l[k] = x at *
      clear hx
      go_wp2
      go_round
      case rel => exact ⟨k + 1, by omega, by go_num, by rw [hS.out]; rfl, by rw [hS.out]; rfl⟩
      case measure => simp [intOf]; omega
    · have hk2 : l.take k = l := List.take_of_length_le (by omega)
      have hF := Lib.hid (show adler sum l = (adFold (adStart sum) l).2 * 65536 + (adFold (adStart sum) l).1 from rfl)
      rw [hk2] at hb1 hb2 ⊢
      clear hk2 hbyte ha
      generalize adFold (adStart sum) l = p at *
      have e1 := or_low p.1 p.2 hb1 hb2
      go_wp2
      go_ret
      exact ⟨by rw [hF.out]; rfl, rfl⟩

set_option maxRecDepth 100000 in
set_option maxHeartbeats 1000000 in
theorem refAdler_any (sum : Nat) (hs : sum ≤ 4294967295) (v : Value) (l : List Nat) (w : World) (hv : Nums .u8 256 w v l) :
    Calls Try.prog 47 #[.int .u32 (sum : Int), v] w fun e w' => e = .returned (.int .u32 (adler sum l : Nat)) ∧ w = w' := by
  obtain ⟨a, cap, rfl, hlen, hbyte, hcell⟩ := hv.open_
  have hC := Lib.hid hcell
  clear hcell
  go_enter Try.func47, Try.ntmps47
  go_wp2
  go_loop [5, 6, 7] (fun x y i => ∃ k : Nat, k ≤ l.length ∧ i = .int .i64 k ∧ x = .int .u32 ((adFold (adStart sum) (l.take k)).1 : Nat) ∧ y = .int .u32 ((adFold (adStart sum) (l.take k)).2 : Nat)) (fun _ _ i => l.length - (intOf i).toNat)
  case atStart => exact ⟨0, Nat.zero_le _, rfl, rfl, rfl⟩
  case round =>
    obtain ⟨k, hk, rfl, rfl, rfl⟩ := hrel
    obtain ⟨hb1, hb2⟩ := ad_lt sum (l.take k)
    by_cases hlt : k < l.length
    · obtain ⟨b, off, rfl, hbw, hc⟩ := hC.out k hlt
      have c1 := hc k hlt
      have hS := Lib.hid (adFold_snoc (adStart sum) l k hlt)
      have hby := hbyte l[k] (List.getElem_mem hlt)
      clear hc hbyte
      generalize adFold (adStart sum) (l.take k) = p at *
      generalize hx : l[k] = x at *
      clear hx
      go_wp2
      go_round
      case rel => exact ⟨k + 1, by omega, by go_num, by rw [hS.out]; rfl, by rw [hS.out]; rfl⟩
      case measure => simp [intOf]; omega
    · have hk2 : l.take k = l := List.take_of_length_le (by omega)
      have hF := Lib.hid (show adler sum l = (adFold (adStart sum) l).2 * 65536 + (adFold (adStart sum) l).1 from rfl)
      rw [hk2] at hb1 hb2 ⊢
      clear hk2 hbyte
      generalize adFold (adStart sum) l = p at *
      go_wp2
      go_ret
      exact ⟨by rw [hF.out]; rfl, rfl⟩
end Go.Proofs.Ytighlefajekloaa.SumsW
