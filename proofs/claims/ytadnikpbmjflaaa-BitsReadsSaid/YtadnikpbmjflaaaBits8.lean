/- The walks of chapter 05's reference: its reader. -/
import Derived.Test.YtadnikpbmjflaaaBits6
set_option linter.unusedVariables false
set_option linter.unusedSimpArgs false
namespace Go.Proofs.Ytadnikpbmjflaaa.Bits8
open Go.RowKit BitsM Base Low Bits5 Bits6

theorem bitsB_snoc (B : List Nat) (x : Nat) (hb : ∀ y ∈ B, y < 256) (hx : x < 256) : bitsB (B ++ [x]) = bitsB B ++ bitsOf x 8 := by
  have hbx : ∀ y ∈ B ++ [x], y < 256 := by
    intro y hy; rcases List.mem_append.1 hy with h | h
    · exact hb y h
    · simp at h; omega
  refine num_inj _ _ (by simp [bitsB_length, bitsOf_length]; omega) ?_
  rw [num_bitsB _ hbx, num_append, num_bitsB _ hb, num_bitsOf x 8 (by omega), bitsB_length, valB_append]
  simp [valB]

set_option maxRecDepth 100000 in
set_option maxHeartbeats 1000000 in
theorem rget_bad (a : Option Addr) (len cap p : Nat) (w : World) (k : Int) (hbad : k < 0 ∨ 32 < k) :
    Calls Try.prog 37 #[.agg #[.slice a len cap, .int .i64 (p : Int)], .int .i64 k] w fun e w' => e = .returned (.tuple #[.agg #[.slice a len cap, .int .i64 (p : Int)], .int .u32 0, .int .i64 2]) ∧ Below w.heap.size w w' := by
  have hB := Lib.hid (ext_trans (ext_alloc w (.cells #[.slice a len cap, .int .i64 (p : Int)] 55)) (ext_alloc (w.alloc (.cells #[.slice a len cap, .int .i64 (p : Int)] 55)) (.cells #[.slice a len cap, .int .i64 (p : Int)] 55)))
  have hq := Lib.hid (heap_alloc_new (w.alloc (.cells #[.slice a len cap, .int .i64 (p : Int)] 55)) (.cells #[.slice a len cap, .int .i64 (p : Int)] 55))
  by_cases h : k < 0
  · clear hbad
    have d1 : decide (k < 0) = true := by simp; omega
    go_enter Try.func37, Try.ntmps37
    go_wp2_with (fail)
    refine bodyPost_ret (results_row_tmp2 rfl _ _ _ (w.heap.size + 1) 55 #[.slice a len cap, .int .i64 (p : Int)] _ _ rfl (by have := hq.out; simpa using this) Try.underlying55 (by kernel_rfl)) rfl ?_
    exact ⟨rfl, hB.out⟩
  · have d1 : decide (k < 0) = false := by simp; omega
    have d2 : decide (32 < k) = true := by simp; omega
    clear hbad h
    go_enter Try.func37, Try.ntmps37
    go_wp2_with (fail)
    refine bodyPost_ret (results_row_tmp2 rfl _ _ _ (w.heap.size + 1) 55 #[.slice a len cap, .int .i64 (p : Int)] _ _ rfl (by have := hq.out; simpa using this) Try.underlying55 (by kernel_rfl)) rfl ?_
    exact ⟨rfl, hB.out⟩

set_option maxRecDepth 100000 in
set_option maxHeartbeats 1000000 in
theorem rget_short (a : Option Addr) (len cap p : Nat) (w : World) (k : Nat) (hk : k ≤ 32) (hl : len ≤ 1000000) (hp : p ≤ 1000000) (hs : len < p + k) :
    Calls Try.prog 37 #[.agg #[.slice a len cap, .int .i64 (p : Int)], .int .i64 (k : Int)] w fun e w' => e = .returned (.tuple #[.agg #[.slice a len cap, .int .i64 (p : Int)], .int .u32 0, .int .i64 12]) ∧ Below w.heap.size w w' := by
  have hB := Lib.hid (ext_trans (ext_alloc w (.cells #[.slice a len cap, .int .i64 (p : Int)] 55)) (ext_alloc (w.alloc (.cells #[.slice a len cap, .int .i64 (p : Int)] 55)) (.cells #[.slice a len cap, .int .i64 (p : Int)] 55)))
  have hq := Lib.hid (heap_alloc_new (w.alloc (.cells #[.slice a len cap, .int .i64 (p : Int)] 55)) (.cells #[.slice a len cap, .int .i64 (p : Int)] 55))
  have d1 : decide ((k : Int) < 0) = false := by simp
  have d2 : decide (32 < (k : Int)) = false := by simp; omega
  have d3 : decide ((len : Int) < (p : Int) + (k : Int)) = true := by simp; omega
  clear hs
  go_enter Try.func37, Try.ntmps37
  go_wp2_with (fail)
  refine bodyPost_ret (results_row_tmp2 rfl _ _ _ (w.heap.size + 1) 55 #[.slice a len cap, .int .i64 (p : Int)] _ _ rfl (by have := hq.out; simpa using this) Try.underlying55 (by kernel_rfl)) rfl ?_
  exact ⟨rfl, hB.out⟩

def RGet (w : World) (v : Value) (p n : Nat) (e : Ending) (w' : World) : Prop := e = .returned (.tuple #[.agg #[v, .int .i64 (p : Int)], .int .u32 (n : Int), .int .i64 0]) ∧ Below w.heap.size w w'
set_option maxRecDepth 100000 in
set_option maxHeartbeats 1000000 in
theorem rget_any (v : Value) (L : List Bool) (p : Nat) (w : World) (hvs : Sq w v L) (k : Nat) (hk : k ≤ 32) (hl : L.length ≤ 1000000) (hs : p + k ≤ L.length) :
    Calls Try.prog 37 #[.agg #[v, .int .i64 (p : Int)], .int .i64 (k : Int)] w (RGet w v (p + k) (Bits6.part L p k)) := by
  obtain ⟨hv, hv0⟩ := hvs
  obtain ⟨a, cap, rfl, h1, -⟩ := hv.open_
  obtain ⟨W, hW⟩ : ∃ W, W = (w.alloc (.cells #[.slice a L.length cap, .int .i64 (p : Int)] 55)).alloc (.cells #[.slice none 0 0, .int .i64 0] 55) := ⟨_, rfl⟩
  have hBW : Below w.heap.size w W := by rw [hW]; exact ((Below.refl w.heap.size w).alloc (Nat.le_refl _) _).alloc (by simp) _
  have hk1 : W.heap[w.heap.size]? = some (.cells #[.slice a L.length cap, .int .i64 (p : Int)] 55) := by
    rw [hW, heap_alloc_old _ _ (by simp)]; exact heap_alloc_new _ _
  have hk2 : W.heap[w.heap.size + 1]? = some (.cells #[.slice none 0 0, .int .i64 0] 55) := by
    rw [hW, show w.heap.size + 1 = (w.alloc (.cells #[.slice a L.length cap, .int .i64 (p : Int)] 55)).heap.size from by simp]; exact heap_alloc_new _ _
  have hV2 := Lib.hid (hv.below hBW (Nat.le_refl _))
  have hX := Lib.hid (And.intro hBW (And.intro hk1 hk2))
  have hs0 := hBW.size
  have hN := Lib.hid (number_any _ L W hV2.out p k hk hs hl)
  obtain ⟨n, hn⟩ : ∃ n, n = Bits6.part L p k := ⟨_, rfl⟩
  rw [← hn] at hN ⊢
  have d1 : decide ((k : Int) < 0) = false := by simp
  have d2 : decide (32 < (k : Int)) = false := by simp; omega
  have d3 : decide ((L.length : Int) < (p : Int) + (k : Int)) = false := by simp; omega
  clear hv hk1 hk2 hBW hn
  go_enter Try.func37, Try.ntmps37
  go_wp2_with (fail)
  rw [← hW]
  clear hW
  refine hN.out.mono ?_
  rintro e w1 ⟨rfl, rfl⟩
  have c1 := (cell_of_row _ _ 0 _ _ _ hX.out.2.1)
  have c2 := (cell_of_row _ _ 1 _ _ _ hX.out.2.1)
  have f1 := frozen_of_row _ _ 0 _ _ hX.out.2.1
  have f2 := frozen_of_row _ _ 1 _ _ hX.out.2.1
  have c3 := (cell_of_row _ _ 0 _ _ _ hX.out.2.2)
  have c4 := (cell_of_row _ _ 1 _ _ _ hX.out.2.2)
  have f3 := frozen_of_row _ _ 0 _ _ hX.out.2.2
  have f4 := frozen_of_row _ _ 1 _ _ hX.out.2.2
  simp only [List.getElem?_toArray, List.getElem?_cons_succ, List.getElem?_cons_zero] at c1 c2 c3 c4
  go_wp2_with (fail)
  refine bodyPost_ret (results_row_tmp2 rfl _ _ _ (w.heap.size + 1) 55 #[.slice a L.length cap, .int .i64 ((p : Int) + (k : Int))] _ _ rfl (by rw [heap_setCell_same _ _ _ _ _ _ (heap_setCell_same _ _ _ _ _ _ ((heap_setCell_other _ _ _ _ (by simp)).trans hX.out.2.2))]; rfl) Try.underlying55 (by kernel_rfl)) rfl ?_
  have hK := ((((Keeps.refl (fun k => k = w.heap.size ∨ k = w.heap.size + 1) W).setCell w.heap.size 1 (.int .i64 ((p : Int) + (k : Int))) (.inl (.inl rfl))).setCell (w.heap.size + 1) 0 (.slice a L.length cap) (.inl (.inr rfl))).setCell (w.heap.size + 1) 1 (.int .i64 ((p : Int) + (k : Int))) (.inl (.inr rfl)))
  refine ⟨by rw [show ((p + k : Nat) : Int) = (p : Int) + (k : Int) from by omega]; rfl, hX.out.1.trans (hK.below w.heap.size hs0 (by rintro k (rfl | rfl) <;> omega))⟩

def RAlignR (w : World) (v : Value) (p : Nat) (e : Ending) (w' : World) : Prop := e = .returned (.agg #[v, .int .i64 (p : Int)]) ∧ Below w.heap.size w w'
set_option maxRecDepth 100000 in
set_option maxHeartbeats 1000000 in
theorem ralignr_any (a : Option Addr) (len cap p : Nat) (w : World) (hp : p ≤ 1000000) :
    Calls Try.prog 38 #[.agg #[.slice a len cap, .int .i64 (p : Int)]] w (RAlignR w (.slice a len cap) (up8 p)) := by
  obtain ⟨W, hW⟩ : ∃ W, W = (w.alloc (.cells #[.slice a len cap, .int .i64 (p : Int)] 55)).alloc (.cells #[.slice none 0 0, .int .i64 0] 55) := ⟨_, rfl⟩
  have hBW : Below w.heap.size w W := by rw [hW]; exact ((Below.refl w.heap.size w).alloc (Nat.le_refl _) _).alloc (by simp) _
  have hk1 : W.heap[w.heap.size]? = some (.cells #[.slice a len cap, .int .i64 (p : Int)] 55) := by
    rw [hW, heap_alloc_old _ _ (by simp)]; exact heap_alloc_new _ _
  have hk2 : W.heap[w.heap.size + 1]? = some (.cells #[.slice none 0 0, .int .i64 0] 55) := by
    rw [hW, show w.heap.size + 1 = (w.alloc (.cells #[.slice a len cap, .int .i64 (p : Int)] 55)).heap.size from by simp]; exact heap_alloc_new _ _
  have hX := Lib.hid (And.intro hBW (And.intro hk1 hk2))
  have hs0 := hBW.size
  clear hk1 hk2 hBW
  go_enter Try.func38, Try.ntmps38
  go_wp2_with (fail)
  go_loopg [] (up8 p - p) (fun r wr => ∃ i : Nat, i + r = up8 p - p ∧ wr.heap[w.heap.size]? = some (.cells #[.slice a len cap, .int .i64 ((p + i : Nat) : Int)] 55) ∧ wr.heap[w.heap.size + 1]? = some (.cells #[.slice none 0 0, .int .i64 0] 55) ∧ Below w.heap.size w wr)
  case atStart => rw [← hW]; exact ⟨0, by omega, hX.out.2.1, hX.out.2.2, hX.out.1⟩
  case round =>
    obtain ⟨i, hir, hr1, hr2, hbl⟩ := hrel
    obtain ⟨q, hq⟩ : ∃ q, q = p + i := ⟨_, rfl⟩
    rw [← hq] at hr1
    have c1 := (cell_of_row _ _ 0 _ _ _ hr1)
    have c2 := (cell_of_row _ _ 1 _ _ _ hr1)
    have f1 := frozen_of_row _ _ 0 _ _ hr1
    have f2 := frozen_of_row _ _ 1 _ _ hr1
    have c3 := (cell_of_row _ _ 0 _ _ _ hr2)
    have c4 := (cell_of_row _ _ 1 _ _ _ hr2)
    have f3 := frozen_of_row _ _ 0 _ _ hr2
    have f4 := frozen_of_row _ _ 1 _ _ hr2
    simp only [List.getElem?_toArray, List.getElem?_cons_succ, List.getElem?_cons_zero] at c1 c2 c3 c4
    have hq9 : q ≤ 1000007 := by unfold up8 at hir; omega
    have hQ := Lib.hid hq
    have hR1 := Lib.hid hr1
    have hR2 := Lib.hid hr2
    have hBl := Lib.hid hbl
    have hs1 := hbl.size
    have hl2 := lt_of_heap hr2
    clear hr1 hr2 hbl hq hW
    by_cases h8 : q % 8 = 0
    · have d : ((q : Int) % 8 != 0) = false := by simp; omega
      go_wp2
      refine bodyPost_ret (results_cell_row rfl _ _ (w.heap.size + 1) 55 #[.slice a len cap, .int .i64 (q : Int)] _ _ rfl (by rw [heap_setCell_same _ _ _ _ _ _ (heap_setCell_same _ _ _ _ _ _ hR2.out)]; rfl) Try.underlying55 rfl (by kernel_rfl)) rfl ?_
      have hK := ((Keeps.refl (fun k => k = w.heap.size + 1) wr).setCell (w.heap.size + 1) 0 (.slice a len cap) (.inl rfl)).setCell (w.heap.size + 1) 1 (.int .i64 (q : Int)) (.inl rfl)
      have e : q = up8 p := by have := hQ.out; unfold up8 at hir ⊢; omega
      rw [← e]
      exact ⟨rfl, hBl.out.trans (hK.below w.heap.size (by omega) (by rintro k rfl; omega))⟩
    · have d : ((q : Int) % 8 != 0) = true := by simp; omega
      have hi : i < up8 p - p := by have := hQ.out; unfold up8 at hir ⊢; omega
      go_wp2
      go_roundg (up8 p - p - (i + 1))
      case measure => omega
      case rel =>
        have hK := (Keeps.refl (fun k => k = w.heap.size) wr).setCell w.heap.size 1 (.int .i64 ((q : Int) + 1)) (.inl rfl)
        refine ⟨i + 1, by omega, ?_, ?_, hBl.out.trans (hK.below w.heap.size (by omega) (by rintro k rfl; omega))⟩
        · rw [heap_setCell_same _ _ _ _ _ _ hR1.out, ← Nat.add_assoc, ← hQ.out]; rfl
        · rw [heap_setCell_other _ _ _ _ (by simp)]; exact hR2.out

theorem rput_lit (v : Value) (L : List Bool) (t : Int) (w : World) (hv : Seq Value.bool w v L) (n k : Nat) (hk : k ≤ 32) (hn : n < 2 ^ k) (hL : L.length ≤ 1000000) (n' k' : Int) (en : n' = (n : Int)) (ek : k' = (k : Int)) :
    Calls Try.prog 25 #[.agg #[v, .int .i64 t], .int .u32 n', .int .i64 k'] w (RPut w (L ++ bitsOf n k) t) := by
  subst en ek; exact rput_any v L t w hv n k hk hn hL
def RNew (w : World) (B : List Nat) (e : Ending) (w' : World) : Prop := ∃ v', e = .returned (.agg #[v', .int .i64 0]) ∧ Sq w' v' (bitsB B) ∧ Below w.heap.size w w' ∧ ∀ b, v'.ownBlock = some b → w.heap.size ≤ b
set_option maxRecDepth 100000 in
set_option maxHeartbeats 1000000 in
theorem rnew_any (v : Value) (B : List Nat) (w : World) (hv : Nums .u8 256 w v B) (hB : B.length ≤ 100000) :
    Calls Try.prog 36 #[v] w (RNew w B) := by
  obtain ⟨a, cap, rfl, h1, hbyte, hcell⟩ := hv.open_
  obtain ⟨W, hW⟩ : ∃ W, W = (w.alloc (.cells #[.slice none 0 0, .int .i64 0] 55)).alloc (.cells #[.slice none 0 0, .int .i64 0] 36) := ⟨_, rfl⟩
  have hBW : Below w.heap.size w W := by rw [hW]; exact ((Below.refl w.heap.size w).alloc (Nat.le_refl _) _).alloc (by simp) _
  have hk1 : W.heap[w.heap.size]? = some (.cells #[.slice none 0 0, .int .i64 0] 55) := by
    rw [hW, heap_alloc_old _ _ (by simp)]; exact heap_alloc_new _ _
  have hk2 : W.heap[w.heap.size + 1]? = some (.cells #[.slice none 0 0, .int .i64 0] 36) := by
    rw [hW, show w.heap.size + 1 = (w.alloc (.cells #[.slice none 0 0, .int .i64 0] 55)).heap.size from by simp]; exact heap_alloc_new _ _
  have hX := Lib.hid (And.intro hBW (And.intro hk1 hk2))
  have hvw := Lib.hid (And.intro hv (And.intro hbyte hcell))
  clear hk1 hk2 hBW hv hbyte hcell
  go_enter Try.func36, Try.ntmps36
  go_wp2_with (fail)
  go_loopg [4] B.length (fun r n4 wr => ∃ (i : Nat) (v' : Value), i + r = B.length ∧ n4 = .int .i64 (i : Int) ∧ Sq wr v' (bitsB (B.take i)) ∧ wr.heap[w.heap.size]? = some (.cells #[.slice none 0 0, .int .i64 0] 55) ∧ wr.heap[w.heap.size + 1]? = some (.cells #[v', .int .i64 0] 36) ∧ (∀ b, v'.ownBlock = some b → w.heap.size + 2 ≤ b) ∧ Below w.heap.size w wr)
  case atStart => rw [← hW]; exact ⟨0, _, by omega, rfl, by simpa [bitsB, bitsOf] using Sq.nil W, hX.out.2.1, hX.out.2.2, fun b h => by simp [Value.ownBlock] at h, hX.out.1⟩
  case round =>
    obtain ⟨i, v', hir, rfl, hsq, hr1, hr2, hap, hbl⟩ := hrel
    have hlb : (bitsB (B.take i)).length ≤ 800000 := by rw [bitsB_length]; simp; omega
    obtain ⟨a2, cap2, rfl, -, -⟩ := hsq.sq.open_
    obtain ⟨m, hm⟩ : ∃ m, m = (bitsB (B.take i)).length := ⟨_, rfl⟩
    rw [← hm] at hsq hr2 hap
    have c1 := (cell_of_row _ _ 0 _ _ _ hr1)
    have c2 := (cell_of_row _ _ 1 _ _ _ hr1)
    have f1 := frozen_of_row _ _ 0 _ _ hr1
    have f2 := frozen_of_row _ _ 1 _ _ hr1
    have c3 := (cell_of_row _ _ 0 _ _ _ hr2)
    have c4 := (cell_of_row _ _ 1 _ _ _ hr2)
    have f3 := frozen_of_row _ _ 0 _ _ hr2
    have f4 := frozen_of_row _ _ 1 _ _ hr2
    simp only [List.getElem?_toArray, List.getElem?_cons_succ, List.getElem?_cons_zero] at c1 c2 c3 c4
    have hs1 := hbl.size
    have hl1 := lt_of_heap hr1
    have hl2 := lt_of_heap hr2
    have hR1 := Lib.hid hr1
    have hR2 := Lib.hid hr2
    have hSq := Lib.hid hsq
    have hBl := Lib.hid hbl
    have hAp := Lib.hid hap
    have hM := Lib.hid hm
    have hLb := Lib.hid hlb
    clear hr1 hr2 hbl hsq hap hW hm hlb
    by_cases hi : i < B.length
    · obtain ⟨b, off, rfl, hb, hc⟩ := hvw.out.2.2 i hi
      have c5 := (hBl.out.cell (p := ⟨b, off + i, none⟩) hb).trans (hc i hi)
      obtain ⟨x, hx⟩ : ∃ x, x = B[i] := ⟨_, rfl⟩
      rw [← hx] at c5
      have hx256 : x < 256 := by rw [hx]; exact hvw.out.2.1 _ (List.getElem_mem hi)
      have hXX := Lib.hid hx
      have hp := Lib.hid (rput_lit (.slice a2 m cap2) _ 0 wr.drew ((hSq.out.sq.below (below_drew (Below.refl wr.heap.size wr)) (Nat.le_refl _))) x 8 (by omega) (by omega) (by have := hLb.out; omega) (IntKind.u32.wrap (x : Int)) 8 (by rw [IntKind.wrap_u32]; omega) rfl)
      clear hc hx
      obtain ⟨both, hboth⟩ : ∃ l, l = bitsB (B.take i) ++ bitsOf x 8 := ⟨_, rfl⟩
      rw [← hboth] at hp
      have hBo := Lib.hid hboth
      clear hboth
      go_upto_region 5 with (fail)
      go_region_with (go_at_call 25; refine hp.out.mono ?_; rintro e w2 ⟨v2, rfl, hown, hbl2⟩; obtain ⟨a3, cap3, rfl, -, -⟩ := hown.seq.open_; have p1 : w2.heap[w.heap.size]? = _ := (hbl2.block _ hl1).trans hR1.out; have p2 : w2.heap[w.heap.size + 1]? = _ := (hbl2.block _ hl2).trans hR2.out; have q1 := (cell_of_row _ _ 0 _ _ _ p2); have q2 := (cell_of_row _ _ 1 _ _ _ p2); have g1 := frozen_of_row _ _ 0 _ _ p2; have g2 := frozen_of_row _ _ 1 _ _ p2; simp only [List.getElem?_toArray, List.getElem?_cons_succ, List.getElem?_cons_zero] at q1 q2; have P1 := Lib.hid p1; have P2 := Lib.hid p2; have hO := Lib.hid hown; have hB2 := Lib.hid hbl2; clear p1 p2 hown hbl2)
      all_goals
        have hK := ((Keeps.refl (fun k => k = w.heap.size + 1) w2).setCell (w.heap.size + 1) 0 (.slice a3 both.length cap3) (.inl rfl)).setCell (w.heap.size + 1) 1 (.int .i64 0) (.inl rfl)
        go_wp2
        go_roundg (B.length - (i + 1))
        case measure => omega
        case rel =>
          have ht := fun b hb => (hO.out.lt b hb)
          have hks := hK.size
          have hbs : wr.heap.size ≤ w2.heap.size := hB2.out.size
          have hd : wr.drew.heap.size = wr.heap.size := rfl
          refine ⟨i + 1, .slice a3 both.length cap3, by omega, rfl, ?_, ?_, ?_, ?_, ?_⟩
          · rw [List.take_succ_eq_append_getElem hi, bitsB_snoc _ _ (fun y hy => hvw.out.2.1 y (List.mem_of_mem_take hy)) (by rw [← hXX.out]; exact hx256), ← hXX.out, ← hBo.out]
            exact ⟨hO.out.seq.frame hK (fun b hb => by have := ht b hb; omega), fun b hb => by have := ht b hb; omega⟩
          · rw [heap_setCell_other _ _ _ _ (by simp), heap_setCell_other _ _ _ _ (by simp)]; exact P1.out
          · rw [heap_setCell_same _ _ _ _ _ _ (heap_setCell_same _ _ _ _ _ _ P2.out)]; rfl
          · intro b hb; have := ht b hb; omega
          · exact (hBl.out.trans ((below_of_drew hB2.out).mono (by omega))).trans (hK.below w.heap.size (by omega) (by rintro k rfl; omega))
    · have hi0 : B.take i = B := List.take_of_length_le (by omega)
      have hI := Lib.hid hi0
      clear hi0
      go_wp2
      refine bodyPost_ret (results_cell_row rfl _ _ w.heap.size 55 #[.slice a2 m cap2, .int .i64 0] _ _ rfl (by rw [heap_setCell_same _ _ _ _ _ _ (heap_setCell_same _ _ _ _ _ _ hR1.out)]; rfl) Try.underlying55 rfl (by kernel_rfl)) rfl ?_
      have hK := ((Keeps.refl (fun k => k = w.heap.size) wr).setCell w.heap.size 0 (.slice a2 m cap2) (.inl rfl)).setCell w.heap.size 1 (.int .i64 0) (.inl rfl)
      have hsq := hSq.out
      rw [hI.out] at hsq
      exact ⟨_, rfl, ⟨hsq.sq.frame hK (fun b hb => by have := hAp.out b hb; omega), fun b hb => Nat.lt_of_lt_of_le (hsq.lt b hb) hK.size⟩, hBl.out.trans (hK.below w.heap.size (by omega) (by rintro k rfl; omega)), fun b hb => by have := hAp.out b hb; omega⟩
end Go.Proofs.Ytadnikpbmjflaaa.Bits8
