/- The walks of chapter 05's reference: Number, Take, and its reader. -/
import Derived.Test.YtighlefajekloaaBits5
set_option linter.unusedVariables false
set_option linter.unusedSimpArgs false
namespace Go.Proofs.Ytighlefajekloaa.Bits6
open Go.RowKit BitsM Base Low Bits5

/-- the number of k bits from a place on -/
def part (L : List Bool) (p k : Nat) : Nat := num ((L.drop p).take k)
theorem part_step (L : List Bool) (p k : Nat) (h : p < L.length) : part L p (k + 1) = L[p].toNat + 2 * part L (p + 1) k := by
  unfold part
  rw [List.drop_eq_getElem_cons h, List.take_succ_cons]; rfl
theorem part_lt (L : List Bool) (p k : Nat) : part L p k < 2 ^ k := by
  have := num_lt ((L.drop p).take k)
  exact Nat.lt_of_lt_of_le this (Nat.pow_le_pow_right (by omega) (by simp; omega))

set_option maxRecDepth 100000 in
set_option maxHeartbeats 1000000 in
theorem number_any (v : Value) (L : List Bool) (w : World) (hv : Seq Value.bool w v L) (p k : Nat) (hk : k ≤ 32) (hp : p + k ≤ L.length) (hL : L.length ≤ 1000000) :
    Calls Try.prog 68 #[v, .int .i64 (p : Int), .int .i64 (k : Int)] w fun e w' => e = .returned (.int .u32 (part L p k : Nat)) ∧ w = w' := by
  obtain ⟨a, cap, rfl, h1, hc⟩ := hv.open_
  clear hv
  go_enter Try.func68, Try.ntmps68
  go_wp2_with (fail)
  go_loopg [7, 8] k (fun r n7 n8 wr => r ≤ k ∧ n7 = .int .u32 ((part L (p + r) (k - r) : Nat) : Int) ∧ n8 = .int .i64 ((r : Int) - 1) ∧ w = wr)
  case atStart => exact ⟨Nat.le_refl _, by simp [part, num], rfl, rfl⟩
  case round =>
    obtain ⟨hrk, rfl, rfl, rfl⟩ := hrel
    obtain ⟨x, hx⟩ : ∃ x, x = part L (p + gk) (k - gk) := ⟨_, rfl⟩
    rw [← hx]
    have hX := Lib.hid hx
    by_cases hpos : 0 < gk
    · have hx31 : x < 2 ^ 31 := by rw [hx]; exact Nat.lt_of_lt_of_le (part_lt _ _ _) (Nat.pow_le_pow_right (by omega) (by omega))
      clear hx
      obtain ⟨q, hq⟩ : ∃ q, q + 1 = p + gk := ⟨p + gk - 1, by omega⟩
      have hqL : q < L.length := by omega
      obtain ⟨b, off, rfl, hb, hcell⟩ := hc q hqL
      have c0 := hcell q hqL
      have hst := part_step L q (k - gk) hqL
      rw [show k - gk + 1 = k - (gk - 1) from by omega, hq, ← hX.out] at hst
      generalize hbit : L[q] = bit at *
      have hS := Lib.hid hst
      clear hc hcell hst
      have e3 : ((p : Int) + ((gk : Int) - 1)) = (q : Int) := by omega
      have hgq : p + (gk - 1) = q := by omega
      cases bit with
      | true =>
        go_wp2
        go_roundg (gk - 1)
        case measure => omega
        case rel => exact ⟨by omega, by rw [hgq, hS.out]; simp; omega, by congr 1; omega, rfl⟩
      | false =>
        go_wp2
        go_roundg (gk - 1)
        case measure => omega
        case rel => exact ⟨by omega, by rw [hgq, hS.out]; simp; omega, by congr 1; omega, rfl⟩
    · obtain rfl : gk = 0 := by omega
      go_wp2
      go_ret
      exact ⟨by rw [hX.out]; rfl, rfl⟩

theorem part_byte (L : List Bool) (T i : Nat) : part L (8 * (T + i)) 8 = num L / 256 ^ T / 256 ^ i % 256 := by
  unfold part
  rw [num_slice, Nat.div_div_eq_div_mul, ← Nat.pow_add, pow256]
/-- what the reference's Take leaves -/
def RTake (w : World) (v : Value) (L : List Bool) (T : Nat) (e : Ending) (w' : World) : Prop :=
  ∃ v', e = .returned (.tuple #[.agg #[v, .int .i64 ((L.length / 8 : Nat) : Int)], v']) ∧ Own .u8 256 5 w.heap.size w' v' (bytesN (num L / 256 ^ T) (L.length / 8 - T)) ∧ Below w.heap.size w w'
set_option maxRecDepth 100000 in
set_option maxHeartbeats 1000000 in
theorem rtake_any (v : Value) (L : List Bool) (T : Nat) (w : World) (hvs : Sq w v L) (hT : T ≤ L.length / 8) (hL : L.length ≤ 900000) :
    Calls Try.prog 56 #[.agg #[v, .int .i64 (T : Int)]] w (RTake w v L T) := by
  have hv0 := hvs.lt
  obtain ⟨hv, -⟩ := hvs
  obtain ⟨a, cap, rfl, h1, -⟩ := hv.open_
  obtain ⟨W, hW⟩ : ∃ W, W = (w.alloc (.cells #[.slice a L.length cap, .int .i64 (T : Int)] 60)).alloc (.cells #[.slice none 0 0, .int .i64 0] 60) := ⟨_, rfl⟩
  have hBW : Below w.heap.size w W := by rw [hW]; exact ((Below.refl w.heap.size w).alloc (Nat.le_refl _) _).alloc (by simp) _
  have hk1 : W.heap[w.heap.size]? = some (.cells #[.slice a L.length cap, .int .i64 (T : Int)] 60) := by
    rw [hW, heap_alloc_old _ _ (by simp)]; exact heap_alloc_new _ _
  have hk2 : W.heap[w.heap.size + 1]? = some (.cells #[.slice none 0 0, .int .i64 0] 60) := by
    rw [hW, show w.heap.size + 1 = (w.alloc (.cells #[.slice a L.length cap, .int .i64 (T : Int)] 60)).heap.size from by simp]; exact heap_alloc_new _ _
  have hsz : W.heap.size = w.heap.size + 2 := by rw [hW]; simp
  have hV2 := Lib.hid (hv.below hBW (Nat.le_refl _))
  have hvw := Lib.hid hv
  have hX := Lib.hid (And.intro hBW (And.intro hk1 (And.intro hk2 hsz)))
  clear hv hk1 hk2 hsz hBW
  go_enter Try.func56, Try.ntmps56
  go_wp2_with (fail)
  go_loopg [4] (L.length / 8 - T) (fun r n4 wr => ∃ (i : Nat) (v4 : Value), i + r = L.length / 8 - T ∧ n4 = v4 ∧ Own .u8 256 5 W.heap.size wr v4 (bytesN (num L / 256 ^ T) i) ∧ wr.heap[w.heap.size]? = some (.cells #[.slice a L.length cap, .int .i64 ((T + i : Nat) : Int)] 60) ∧ wr.heap[w.heap.size + 1]? = some (.cells #[.slice none 0 0, .int .i64 0] 60) ∧ W.heap.size ≤ wr.heap.size ∧ Below w.heap.size w wr)
  case atStart => rw [← hW]; exact ⟨0, _, by omega, rfl, Own.nil _ _ _ _ _, hX.out.2.1, hX.out.2.2.1, Nat.le_refl _, hX.out.1⟩
  case round =>
    obtain ⟨i, v4, hir, rfl, hown, hr1, hr2, hsz, hbl⟩ := hrel
    have hsq := hvw.out.below hbl (Nat.le_refl _)
    have c1 := (cell_of_row _ _ 0 _ _ _ hr1)
    have c2 := (cell_of_row _ _ 1 _ _ _ hr1)
    have f1 := frozen_of_row _ _ 0 _ _ hr1
    have f2 := frozen_of_row _ _ 1 _ _ hr1
    have c3 := (cell_of_row _ _ 0 _ _ _ hr2)
    have c4 := (cell_of_row _ _ 1 _ _ _ hr2)
    have f3 := frozen_of_row _ _ 0 _ _ hr2
    have f4 := frozen_of_row _ _ 1 _ _ hr2
    simp only [List.getElem?_toArray, List.getElem?_cons_succ, List.getElem?_cons_zero] at c1 c2 c3 c4
    obtain ⟨S, hS⟩ : ∃ S, S = T + i := ⟨_, rfl⟩
    rw [← hS] at c2 hr1
    have hSS := Lib.hid hS
    have hR1 := Lib.hid hr1
    have hR2 := Lib.hid hr2
    have hSq := Lib.hid hsq
    have hBl := Lib.hid hbl
    have hO := Lib.hid hown
    have hws : w.heap.size < W.heap.size ∧ w.heap.size + 1 < W.heap.size := by have := hX.out.2.2.2; omega
    clear hr1 hr2 hsq hbl hown hW
    by_cases h8 : S < L.length / 8
    · have d : decide (8 * ((S : Int) + 1) ≤ (L.length : Int)) = true := by simp; omega
      obtain ⟨P, hP⟩ : ∃ P, P = 8 * S := ⟨_, rfl⟩
      have hP2 : (8 : Int) * (S : Int) = (P : Int) := by omega
      obtain ⟨x, hx⟩ : ∃ x, x = part L P 8 := ⟨_, rfl⟩
      have hx256 : x < 256 := by rw [hx]; exact part_lt _ _ _
      have hXX := Lib.hid (And.intro hP hx)
      have hnum := number_any _ L wr hSq.out P 8 (by omega) (by omega) (by omega)
      rw [← hx] at hnum
      have hN := Lib.hid hnum
      have hN1 := Lib.hid (nums_one .u8 256 5 wr x hx256)
      have hO2 := Lib.hid (hO.out.alloc (.cells #[.int .u8 (x : Int)] 5))
      have hb1 := Lib.hid (show ((bytesN (num L / 256 ^ T) i).length + [x].length) * 1 ≤ 140737488355328 by rw [bytesN_length]; simp; have := hSS.out; omega)
      have hb2 := Lib.hid (show (bytesN (num L / 256 ^ T) i).length + [x].length ≤ 140737488355328 by rw [bytesN_length]; simp; have := hSS.out; omega)
      have hbs : W.heap.size ≤ (wr.alloc (.cells #[.int .u8 (x : Int)] 5)).heap.size := by simp; omega
      clear hnum hP hx hS
      go_upto_region 4 with (first
        | (go_at_call 68; refine hN.out.mono ?_; rintro e w1 ⟨rfl, rfl⟩)
        | (at_builtin; refine wpList_append_nums_at rfl (.tmp 13) (.tmp 21) 33 5 rfl .u8 256 1 W.heap.size u8s u4 _ rfl hO2.out _ [x] rfl hN1.out hb1.out hb2.out hbs ?_; intro v2 w2 hown2 hgr2 hfr2))
      have hB2 : Below W.heap.size wr w2 := ((Below.refl _ _).alloc hsz _).grown hgr2 hbs (fun k h => (hO2.out.lt k h).1)
      have p1 : w2.heap[w.heap.size]? = _ := (hB2.block _ hws.1).trans hR1.out
      have p2 : w2.heap[w.heap.size + 1]? = _ := (hB2.block _ hws.2).trans hR2.out
      have q1 := (cell_of_row _ _ 0 _ _ _ p1)
      have q2 := (cell_of_row _ _ 1 _ _ _ p1)
      have g1 := frozen_of_row _ _ 1 _ _ p1
      simp only [List.getElem?_toArray, List.getElem?_cons_succ, List.getElem?_cons_zero] at q1 q2
      have P1 := Lib.hid p1
      have P2 := Lib.hid p2
      have hB := Lib.hid hB2
      have hO3 := Lib.hid hown2
      clear c1 c2 c3 c4 f1 f2 f3 f4 hgr2 hfr2 hown2 p1 p2 hB2 hN hN1 hO2
      go_wp2
      go_roundg (L.length / 8 - T - (i + 1))
      case measure => have := hSS.out; omega
      case rel =>
        have hK := (Keeps.refl (fun k => k = w.heap.size) w2).setCell w.heap.size 1 (.int .i64 ((S : Int) + 1)) (.inl rfl)
        have hks := hK.size
        have hsz2 := hB.out.size
        have ht := fun b hb => (hO3.out.lt b hb)
        refine ⟨i + 1, v2, by have := hSS.out; omega, rfl, ?_, ?_, ?_, by omega, ?_⟩
        · rw [bytesN_snoc, ← part_byte, ← hSS.out, ← hXX.out.1, ← hXX.out.2]
          exact hO3.out.frame hK (fun b hb => by have := ht b hb; omega)
        · rw [heap_setCell_same _ _ _ _ _ _ P1.out, ← Nat.add_assoc, ← hSS.out]; rfl
        · rw [heap_setCell_other _ _ _ _ (by simp)]; exact P2.out
        · exact (hBl.out.trans (hB.out.mono (by omega))).trans (hK.below w.heap.size (by omega) (by rintro k rfl; omega))
    · have hi0 : i = L.length / 8 - T ∧ S = L.length / 8 := by have := hSS.out; omega
      have d : decide (8 * ((S : Int) + 1) ≤ (L.length : Int)) = false := by simp; omega
      have hI := Lib.hid hi0
      have hSle : S ≤ L.length / 8 := by omega
      clear hS hi0
      go_wp2
      have hi0 := hI.out
      refine bodyPost_ret (results_row_tmp rfl _ _ _ (w.heap.size + 1) 60 #[.slice a L.length cap, .int .i64 (S : Int)] _ _ rfl (by rw [heap_setCell_same _ _ _ _ _ _ (heap_setCell_same _ _ _ _ _ _ hR2.out)]; rfl) Try.underlying60 (by kernel_rfl)) rfl ?_
      have hK := ((Keeps.refl (fun k => k = w.heap.size + 1) wr).setCell (w.heap.size + 1) 0 (.slice a L.length cap) (.inl rfl)).setCell (w.heap.size + 1) 1 (.int .i64 (S : Int)) (.inl rfl)
      refine ⟨u4, by rw [hi0.2]; rfl, ?_, hBl.out.trans (hK.below w.heap.size (by omega) (by rintro k rfl; omega))⟩
      rw [← hi0.1]
      exact Own.mono (base := W.heap.size) (hO.out.frame hK (fun b hb => by have := hO.out.lt b hb; have := hX.out.2.2.2; omega)) (by omega)
end Go.Proofs.Ytighlefajekloaa.Bits6
