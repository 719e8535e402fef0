/- The law BitsWrites. -/
import Derived.Test.YtadnikpbmjflaaaBits9
import Derived.Deep.CutBlock
namespace Go.Proofs.Ytadnikpbmjflaaa.BitsN3
open Go.RowKit BitsM Base Low Bits5 Bits6 BitsW BitsX BitsR BitsG Bits7 Bits8 Bits9

set_option maxRecDepth 100000 in
set_option maxHeartbeats 2000000 in
theorem writes_any (v : Value) (l : List Cmd) (w : World) (hv : Script w v l) : Calls Try.prog 6 #[v] w fun e w' => e = .returned (.bool true) ∧ Below w.heap.size w w' := by
  obtain ⟨a, cap, rfl, hlen⟩ := hv.shape
  have hV := Lib.hid hv
  clear hv
  go_enter Try.func6, Try.ntmps6
  go_wp2_with fail
  refine (newWriter_any _).mono ?_
  rintro e w1 ⟨rfl, rfl⟩
  have h1 := WS.new w
  have hlo := h1.below.size
  generalize w.alloc _ = w1 at *
  have hS0 : St w (w1.alloc (.cells #[.slice none 0 0, .int .i64 0] 36)) w.heap.size w1.heap.size (.slice none 0 0) (.slice none 0 0) [] 0 0 0 0 (fun _ => False) :=
    ⟨(h1.ext (ext_alloc w1 _)).mono (by rintro b (h | rfl | h); simp [Value.ownBlock] at h; exact .inr ⟨Nat.le_refl _, by simp⟩; exact h.elim), heap_alloc_new _ _, Sq.nil _, by simp [Value.ownBlock], id, hlo⟩
  have hS1 := Lib.hid hS0
  clear hS0 h1
  go_wp2_with fail
  go_loopg [5] l.length (fun r n5 wr => ∃ (i : Nat) (v' rv : Value) (L : List Bool) (V R T : Nat), i + r = l.length ∧ i ≤ 100 ∧ n5 = .int .i64 (i : Int) ∧ L.length ≤ 40 * i ∧ Rel L V R T ∧ St w wr w.heap.size w1.heap.size v' rv L V R T T (fun _ => False))
  case atStart => exact ⟨0, _, _, [], 0, 0, 0, by omega, by omega, rfl, by simp, ⟨rfl, rfl⟩, hS1.out⟩
  case round =>
    obtain ⟨i, v', rv, L, V, R, T, hir, hi100, rfl, hL40, hrel', hst⟩ := hrel
    have hRl := Lib.hid hrel'
    have hSt := Lib.hid hst
    clear hrel' hst hS1
    by_cases hi : i < l.length ∧ i < 100
    · obtain ⟨hi1, hi2⟩ := hi
      obtain ⟨b, off, cap', e, hb, hc⟩ := hV.out.cells (by intro h0; subst h0; simp at hi1)
      simp only [Value.slice.injEq] at e
      obtain ⟨rfl, -, rfl⟩ := e
      obtain ⟨c0, c1, c2⟩ := hc i hi1
      obtain ⟨c, hcc⟩ : ∃ c, c = l[i] := ⟨_, rfl⟩
      have hok := hV.out.fits _ (List.getElem_mem hi1)
      rw [← hcc] at c0 c1 c2 hok
      have hlow := hSt.out.ws.below
      rw [← hlow.cell hb] at c0 c1 c2
      clear hc
      obtain ⟨K, n, k⟩ := c
      simp only at c0 c1 c2
      obtain ⟨k1, k2, n1, k3, k4⟩ := hok
      simp only at k1 k2 n1 k3 k4
      have hCC := Lib.hid hcc
      clear hcc hlow
      have hS2 := hSt.out.ext (ext_alloc wr (.cells #[.int .i64 K, .int .u32 (n : Int), .int .i64 k] 38))
      have hO := heap_alloc_new wr (.cells #[.int .i64 K, .int .u32 (n : Int), .int .i64 k] 38)
      have hS3 : St w (wr.alloc (.cells #[.int .i64 K, .int .u32 (n : Int), .int .i64 k] 38)) w.heap.size w1.heap.size v' rv L V R T T (fun b => b = wr.heap.size) := hS2.mono (fun b hb => .inr (by subst hb; exact ⟨Nat.le_refl _, by simp⟩))
      clear hS2
      have hXX := Lib.hid (And.intro hS3 hO)
      clear hS3 hO hSt
      have hwl : w.heap.size ≤ wr.heap.size := by have := hXX.out.1.low; have := lt_of_heap hXX.out.1.row; simp at this; omega
      go_upto_block 2 with (fail)
      go_cut [7, 8, 9, 10] (fun x y p q wc => ∃ (e : Int) (la : List Nat) (v4 rv4 : Value) (L4 : List Bool) (V4 R4 T4 : Nat), x = .int .i64 e ∧ y = .int .i64 e ∧ Nums .u8 256 wc p la ∧ Nums .u8 256 wc q la ∧ L4.length ≤ 40 * (i + 1) ∧ Rel L4 V4 R4 T4 ∧ St w wc w.heap.size w1.heap.size v4 rv4 L4 V4 R4 T4 T4 (fun _ => False))
      case first =>
        obtain ⟨hSt0, hO0⟩ := hXX.out
        generalize wr.alloc _ = W at *
        have hSt := Lib.hid hSt0
        have hO := Lib.hid hO0
        clear hXX c0 c1 c2 hSt0 hO0
        have e0 := (cell_of_row _ _ 0 _ _ _ hO.out)
        have e1 := (cell_of_row _ _ 1 _ _ _ hO.out)
        have e2 := (cell_of_row _ _ 2 _ _ _ hO.out)
        simp only [List.getElem?_toArray, List.getElem?_cons_succ, List.getElem?_cons_zero] at e0 e1 e2
        rcases (show K = 1 ∨ K = 2 ∨ K = 3 ∨ K = 4 ∨ K = 5 ∨ K = 6 ∨ (K ≠ 1 ∧ K ≠ 2 ∧ K ≠ 3 ∧ K ≠ 4 ∧ K ≠ 5 ∧ K ≠ 6) from by omega) with rfl | rfl | rfl | rfl | rfl | rfl | hK
        iterate 4
          by_cases hbad : ¬ (k < 0 ∨ 32 < k ∨ 2 ^ k.toNat ≤ n)
          · obtain ⟨k0, rfl⟩ : ∃ k0 : Nat, k = (k0 : Int) := ⟨k.toNat, by omega⟩
            have hk32 : k0 ≤ 32 := by omega
            have hn2 : n < 2 ^ k0 := by have := Nat.lt_of_not_le (fun h => hbad (.inr (.inr h))); simpa using this
            have hN2 := Lib.hid hn2
            clear hbad hn2
            go_wp2_with fail
            refine (hSt.out.put n k0 hk32 hN2.out (by have := hRl.out.len; omega)).mono ?_
            rintro e w2 ⟨rfl, v2, hS20, hK2⟩
            clear e0 e1 e2
            have hO2 := (hK2.block _ (lt_of_heap hO.out) (fun hn => hn rfl)).trans hO.out
            have e0 := (cell_of_row _ _ 0 _ _ _ hO2)
            have e1 := (cell_of_row _ _ 1 _ _ _ hO2)
            have e2 := (cell_of_row _ _ 2 _ _ _ hO2)
            have d0 := (cell_of_row _ _ 0 _ _ _ hS20.row)
            have d1 := (cell_of_row _ _ 1 _ _ _ hS20.row)
            simp only [List.getElem?_toArray, List.getElem?_cons_succ, List.getElem?_cons_zero] at e0 e1 e2 d0 d1
            have hS2 := Lib.hid hS20
            clear hK2 hO2 hS20
            go_wp2_with fail
            refine (rput_any rv L T w2 hS2.out.sq.sq n k0 hk32 hN2.out (by omega)).mono ?_
            rintro e w3 ⟨v3, rfl, hown, hbl⟩
            obtain ⟨a3, n3, cap3, rfl⟩ := hown.seq.slice5
            have hr3 : w3.heap[w1.heap.size]? = _ := (hbl.block _ (lt_of_heap hS2.out.row)).trans hS2.out.row
            have q0 := (cell_of_row _ _ 0 _ _ _ hr3)
            have q1 := (cell_of_row _ _ 1 _ _ _ hr3)
            have f0 := frozen_of_row _ _ 0 _ _ hr3
            have f1 := frozen_of_row _ _ 1 _ _ hr3
            simp only [List.getElem?_toArray, List.getElem?_cons_succ, List.getElem?_cons_zero] at q0 q1
            have hS4 := Lib.hid (hS2.out.lay (T3 := T) hbl (Sq.of_own hown) (fun b hb => .inr (hown.lt b hb).1))
            clear hr3 hown hbl e0 e1 e2 d0 d1
            go_wp2_with fail
            go_meet
            case rel => exact ⟨0, [], _, _, _, _, _, _, rfl, rfl, Nums.nil _ _ _, Nums.nil _ _ _, by rw [List.length_append, bitsOf_length]; omega, hRl.out.put n k0 hN2.out, hS4.out.mono (fun _ h => h.elim)⟩
          · go_wp2_with fail
            have hbad := Classical.not_not.1 hbad
            refine (put_bad _ _ _ _ _ _ _ hSt.out.ws.wr n n1 k k3 k4 hbad).mono ?_
            rintro e w2 ⟨rfl, rfl⟩
            obtain ⟨a3, n3, cap3, rfl⟩ := hSt.out.sq.sq.slice5
            have d0 := (cell_of_row _ _ 0 _ _ _ hSt.out.row)
            have d1 := (cell_of_row _ _ 1 _ _ _ hSt.out.row)
            simp only [List.getElem?_toArray, List.getElem?_cons_succ, List.getElem?_cons_zero] at d0 d1
            go_wp2_with fail
            refine (rput_bad _ _ _ T W n n1 k k3 k4 (by rcases hbad with h | h | h; exact .inl h; exact .inr (.inl h); rcases Int.lt_or_le k 0 with h0 | h0; exact .inl h0; exact .inr (.inr ⟨k.toNat, by omega, h⟩))).mono ?_
            rintro e w3 ⟨rfl, hbl⟩
            have hr3 : w3.heap[w1.heap.size]? = _ := (hbl.block _ (lt_of_heap hSt.out.row)).trans hSt.out.row
            have q0 := (cell_of_row _ _ 0 _ _ _ hr3)
            have q1 := (cell_of_row _ _ 1 _ _ _ hr3)
            have f0 := frozen_of_row _ _ 0 _ _ hr3
            have f1 := frozen_of_row _ _ 1 _ _ hr3
            simp only [List.getElem?_toArray, List.getElem?_cons_succ, List.getElem?_cons_zero] at q0 q1
            have hS4 := Lib.hid (hSt.out.lay (T3 := T) hbl (hSt.out.sq.below hbl (Nat.le_refl _)) (fun b hb => .inl hb))
            have hB := Lib.hid hbad
            clear hr3 hbl e0 e1 e2 d0 d1 hbad
            go_wp2_with fail
            go_meet
            case rel => exact ⟨2, [], _, _, _, _, _, _, rfl, rfl, Nums.nil _ _ _, Nums.nil _ _ _, by omega, hRl.out, hS4.out.mono (fun _ h => h.elim)⟩
        · clear e0 e1 e2
          go_wp2_with fail
          refine (hSt.out.take (by have := hRl.out.len; omega)).mono ?_
          rintro e w2 ⟨u2, v2, rfl, hu2, hS20, -, hua⟩
          have d0 := (cell_of_row _ _ 0 _ _ _ hS20.row)
          have d1 := (cell_of_row _ _ 1 _ _ _ hS20.row)
          simp only [List.getElem?_toArray, List.getElem?_cons_succ, List.getElem?_cons_zero] at d0 d1
          have hS2 := Lib.hid hS20
          have hU2 := Lib.hid hu2
          have hUa := Lib.hid hua
          clear hua
          clear hu2 hS20
          go_wp2_with fail
          refine (rtake_any rv L T w2 hS2.out.sq (by have := hRl.out.len; omega) (by omega)).mono ?_
          rintro e w3 ⟨v3, rfl, hown, hbl⟩
          obtain ⟨a3, n3, cap3, rfl⟩ := hS2.out.sq.sq.slice5
          rw [hRl.out.take.2.2, ← hRl.out.num] at hown
          rw [hRl.out.take.2.1]
          have hr3 : w3.heap[w1.heap.size]? = _ := (hbl.block _ (lt_of_heap hS2.out.row)).trans hS2.out.row
          have q0 := (cell_of_row _ _ 0 _ _ _ hr3)
          have q1 := (cell_of_row _ _ 1 _ _ _ hr3)
          have f0 := frozen_of_row _ _ 0 _ _ hr3
          have f1 := frozen_of_row _ _ 1 _ _ hr3
          simp only [List.getElem?_toArray, List.getElem?_cons_succ, List.getElem?_cons_zero] at q0 q1
          have hS4 := Lib.hid (hS2.out.lay (T3 := T + R / 8) hbl (hS2.out.sq.below hbl (Nat.le_refl _)) (fun b hb => .inl hb))
          have hU3 := Lib.hid (hU2.out.below hbl (Nat.le_refl _))
          have hO3 := Lib.hid hown
          clear hr3 hown hbl d0 d1
          go_wp2_with fail
          go_meet
          case rel =>
            have hK := ((Keeps.refl (fun k => k = w1.heap.size) w3).setCell w1.heap.size 0 (.slice a3 n3 cap3) (.inl rfl)).setCell w1.heap.size 1 (.int .i64 ((T + R / 8 : Nat) : Int)) (.inl rfl)
            refine ⟨0, _, _, _, _, _, _, _, rfl, rfl, hU3.out.frame hK hUa.out, ?_, by omega, hRl.out.take.1, hS4.out.mono (fun _ h => h.elim)⟩
            exact hO3.out.nums.frame hK (fun b hb => by have := (hO3.out.lt b hb).1; have := lt_of_heap hS2.out.row; omega)
        · clear e0 e1 e2
          go_wp2_with fail
          refine (hSt.out.align (by have := hRl.out.len; omega)).mono ?_
          rintro e w2 ⟨rfl, v2, hS20, -⟩
          have d0 := (cell_of_row _ _ 0 _ _ _ hS20.row)
          have d1 := (cell_of_row _ _ 1 _ _ _ hS20.row)
          simp only [List.getElem?_toArray, List.getElem?_cons_succ, List.getElem?_cons_zero] at d0 d1
          have hS2 := Lib.hid hS20
          clear hS20
          go_wp2_with fail
          refine (ralign5_any rv L T w2 hS2.out.sq (by omega)).mono ?_
          rintro e w3 ⟨v3, rfl, hown, hbl⟩
          obtain ⟨a3, n3, cap3, rfl⟩ := hown.1.sq.slice5
          obtain ⟨hsq3, hfr3⟩ := hown
          have hr3 : w3.heap[w1.heap.size]? = _ := (hbl.block _ (lt_of_heap hS2.out.row)).trans hS2.out.row
          have q0 := (cell_of_row _ _ 0 _ _ _ hr3)
          have q1 := (cell_of_row _ _ 1 _ _ _ hr3)
          have f0 := frozen_of_row _ _ 0 _ _ hr3
          have f1 := frozen_of_row _ _ 1 _ _ hr3
          simp only [List.getElem?_toArray, List.getElem?_cons_succ, List.getElem?_cons_zero] at q0 q1
          have hS4 := Lib.hid (hS2.out.lay (T3 := T) hbl hsq3 hfr3)
          clear hr3 hbl d0 d1 hsq3 hfr3
          go_wp2_with fail
          go_meet
          case rel => exact ⟨0, [], _, _, _, _, _, _, rfl, rfl, Nums.nil _ _ _, Nums.nil _ _ _, by rw [List.length_append, List.length_replicate]; unfold up8; omega, hRl.out.align, hS4.out.mono (fun _ h => h.elim)⟩
        · clear e0 e1 e2
          obtain ⟨m1, m2, m3, m4, m5, m6⟩ := hK
          have b1 : (K == 1) = false := by simpa using m1
          have b2 : (K == 2) = false := by simpa using m2
          have b3 : (K == 3) = false := by simpa using m3
          have b4 : (K == 4) = false := by simpa using m4
          have b5 : (K == 5) = false := by simpa using m5
          have b6 : (K == 6) = false := by simpa using m6
          clear m1 m2 m3 m4 m5 m6
          go_wp2_with fail
          go_meet
          case rel => exact ⟨0, [], _, _, _, _, _, _, rfl, rfl, Nums.nil _ _ _, Nums.nil _ _ _, by omega, hRl.out, hSt.out.mono (fun _ h => h.elim)⟩
      case rest =>
        obtain ⟨e, la, v4, rv4, L4, V4, R4, T4, rfl, rfl, hp, hq, hl4, hr4, hst4⟩ := hcut
        obtain ⟨a4, cap4, rfl, -, -⟩ := hst4.sq.sq.open_
        have d0 := (cell_of_row _ _ 0 _ _ _ hst4.row)
        simp only [List.getElem?_toArray, List.getElem?_cons_succ, List.getElem?_cons_zero] at d0
        have hS := Lib.hid (hst4.ext (below_drew (Below.refl wc.heap.size wc)))
        have hR := Lib.hid hr4
        have hpq := Lib.hid (And.intro (hp.below (below_drew (Below.refl wc.heap.size wc)) (Nat.le_refl _)) (hq.below (below_drew (Below.refl wc.heap.size wc)) (Nat.le_refl _)))
        have hbt := bits_any _ _ _ _ _ _ _ hS.out.ws.wr
        rw [← hr4.len] at hbt
        have hBt := Lib.hid hbt
        have hsb := sameBytes_any _ _ _ _ _ hpq.out.1 hpq.out.2
        rw [decide_eq_true rfl] at hsb
        have hSb := Lib.hid hsb
        clear hst4 hr4 hp hq hXX hRl c0 c1 c2 hbt hsb
        go_upto_region 22 with (fail)
        go_region_with (first | (go_at_call 21; refine hSb.out.mono ?_; rintro e5 w5 ⟨rfl, rfl⟩) | (go_at_call 30; refine hBt.out.mono ?_; rintro e5 w5 ⟨rfl, rfl⟩))
        all_goals
          go_wp2_with fail
          go_roundg (l.length - (i + 1))
          case measure => omega
          case rel => exact ⟨i + 1, _, _, L4, V4, R4, T4, by omega, by omega, rfl, hl4, hR.out, hS.out.mono (fun _ h => h.elim)⟩
    · have hex : ¬ i < l.length ∨ (i < l.length ∧ i = 100) := by omega
      have hb := Lib.hid hSt.out.ws.below
      rcases hex with h | ⟨h, rfl⟩
      · go_wp2_with fail
        refine (awake_any _).mono ?_
        rintro e w2 ⟨rfl, hb2⟩
        go_wp2_with fail
        go_ret
        exact ⟨rfl, hb.out.trans (hb2.mono hb.out.size)⟩
      · go_wp2_with fail
        refine (awake_any _).mono ?_
        rintro e w2 ⟨rfl, hb2⟩
        go_wp2_with fail
        go_ret
        exact ⟨rfl, hb.out.trans (hb2.mono hb.out.size)⟩
end Go.Proofs.Ytadnikpbmjflaaa.BitsN3
