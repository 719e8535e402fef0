/- Package lightwellref06: fixed, find, and the tables. -/
import Derived.Test.YtighlefajekloaaDefEa
set_option linter.unusedVariables false
set_option linter.unusedSimpArgs false
namespace Go.Proofs.Ytighlefajekloaa.DefEb
open Go.RowKit Go.Sort BitsM Base Low Bits5 Bits6 Bits8 DefN Qb Qt Qp Qy DefEa
theorem ord_sym (s : Nat) : ordB true (symF s).1 (symF s).2 = symB s := rfl
theorem bits_lit (v : Value) (L : List Bool) (t : Int) (w : World) (hv : Sq w v L) (n k : Nat) (turned : Bool) (hk : k ≤ 16) (hn : n ≤ 65535) (hL : L.length ≤ 800000) (n' k' : Int) (en : n' = (n : Int)) (ek : k' = (k : Int)) :
    Calls Try.prog 75 #[.agg #[v, .int .i64 t], .int .i64 n', .int .i64 k', .bool turned] w (RX w v (L ++ ordB turned n k) t) := by
  subst en ek; exact bits_any v L t w hv n k turned hk hn hL
set_option maxRecDepth 100000 in
set_option maxHeartbeats 1000000 in
theorem fixed_any (v : Value) (L : List Bool) (t : Int) (w : World) (hv : Sq w v L) (s : Nat) (hs : s ≤ 287) (hL : L.length ≤ 799000) :
    Calls Try.prog 76 #[.agg #[v, .int .i64 t], .int .i64 (s : Int)] w (RX w v (L ++ symB s) t) := by
  have hx := Bx.start w v L t hv
  obtain ⟨a, c, rfl, hc1⟩ := hx.slice
  obtain ⟨N, hN⟩ : ∃ N, N = L.length := ⟨_, rfl⟩
  obtain ⟨W, hW⟩ : ∃ W, W = (w.alloc (.cells #[.slice a L.length c, .int .i64 t] 60)).alloc (.cells #[.slice none 0 0, .int .i64 0] 60) := ⟨_, rfl⟩
  rw [← hW] at hx
  rw [← hN] at hx hW ⊢
  obtain ⟨n, k, hnk, hk, hn, hcase⟩ : ∃ n k, symF s = (n, k) ∧ k ≤ 16 ∧ n ≤ 65535 ∧ ((s < 144 ∧ n = 48 + s ∧ k = 8) ∨ (144 ≤ s ∧ s < 256 ∧ n = 400 + s - 144 ∧ k = 9) ∨ (256 ≤ s ∧ s < 280 ∧ n = s - 256 ∧ k = 7) ∨ (280 ≤ s ∧ n = 192 + s - 280 ∧ k = 8)) := by
    unfold symF
    split
    · exact ⟨_, _, rfl, by omega, by omega, .inl ⟨by omega, rfl, rfl⟩⟩
    · split
      · exact ⟨_, _, rfl, by omega, by omega, .inr (.inl ⟨by omega, by omega, rfl, rfl⟩)⟩
      · split
        · exact ⟨_, _, rfl, by omega, by omega, .inr (.inr (.inl ⟨by omega, by omega, rfl, rfl⟩))⟩
        · exact ⟨_, _, rfl, by omega, by omega, .inr (.inr (.inr ⟨by omega, rfl, rfl⟩))⟩
  have HBT := Lib.hid (fun n' k' (en : n' = (n : Int)) (ek : k' = (k : Int)) => bits_lit (.slice a N c) L t W hx.sq n k true hk hn (by omega) n' k' en ek)
  have HSY := Lib.hid (show ordB true n k = symB s by have := ord_sym s; rw [hnk] at this; exact this)
  have HX := Lib.hid hx
  have HW := Lib.hid hW
  clear hx hv hN hW hnk
  rcases hcase with ⟨h1, rfl, rfl⟩ | ⟨h1, h2, rfl, rfl⟩ | ⟨h1, h2, rfl, rfl⟩ | ⟨h1, rfl, rfl⟩
  all_goals
    go_enter Try.func76, Try.ntmps76
    go_wp2_with fail
    rw [← HW.out]
    obtain ⟨gr, hgr⟩ : ∃ g, g = w.heap.size + 1 := ⟨_, rfl⟩
    rw [← hgr] at HX ⊢
    obtain ⟨gb, hgb⟩ : ∃ g, g = w.heap.size := ⟨_, rfl⟩
    rw [← hgb] at HX ⊢
    clear hgr hgb HW
    obtain ⟨c1_, c2_, c3_, c4_⟩ := HX.out.cells
    obtain ⟨f1, f2, f3, f4⟩ := HX.out.frozen
    refine (HBT.out _ _ ?en rfl).mono ?_
    case en => omega
    rintro e w2 ⟨v2, rfl, ⟨hs2, ho2⟩, hb2⟩
    have hf := HX.out.finish (t' := t) hs2 ho2 hb2
    obtain ⟨a3, c3, rfl, -, -⟩ := hs2.sq.open_
    have HF := Lib.hid hf
    have h2 := (HX.out.ext hb2)
    obtain ⟨-, -, g1, g2⟩ := h2.cells
    obtain ⟨-, -, x1, x2⟩ := h2.frozen
    rw [HSY.out] at HF ⊢
    obtain ⟨len, hlen⟩ : ∃ x, x = (L ++ symB s).length := ⟨_, rfl⟩
    rw [← hlen] at HF ⊢
    clear hf h2 hs2 ho2 hb2 c1_ c2_ c3_ c4_ f1 f2 f3 f4 hlen
    go_wp2_with fail
    obtain ⟨z1, z2⟩ := HF.out
    refine bodyPost_ret (results_cell_row rfl _ _ gr 60 _ _ _ rfl z1 Try.underlying60 rfl (by kernel_rfl)) rfl ?_
    exact z2
theorem find_step (T : List Nat) (n : Nat) : ∀ f k, findG T n (f + 1) k = if k + 1 < T.length ∧ T.getD (k + 1) 0 ≤ n then findG T n f (k + 1) else k := fun _ _ => rfl
set_option maxRecDepth 100000 in
theorem find_any (v : Value) (T : List Nat) (w : World) (hv : Nums .i64 65536 w v T) (n : Nat) (hn : n ≤ 65536) (hT : T.length ≤ 100) (hT0 : 0 < T.length) :
    Calls Try.prog 78 #[v, .int .i64 (n : Int)] w fun e w' => e = .returned (.int .i64 ((findF T n : Nat) : Int)) ∧ w = w' := by
  obtain ⟨b, off, cap, rfl, hb, hc⟩ := hv.cells (by intro e; rw [e] at hT0; simp at hT0)
  obtain ⟨m, hm⟩ : ∃ m, m = T.length := ⟨_, rfl⟩
  have HV := Lib.hid hv
  have HC := Lib.hid hc
  have HM := Lib.hid hm
  rw [← hm]
  have hm1 : m ≤ 100 ∧ 0 < m := by omega
  clear hv hc hm hT hT0
  go_enter Try.func78, Try.ntmps78
  go_wp2_with fail
  go_loopw [5] (fun v5 wr => ∃ k f : Nat, k < m ∧ f + k = m ∧ v5 = .int .i64 (k : Int) ∧ findG T n f k = findF T n ∧ w = wr) (fun v5 _ => m - (intOf v5).toNat)
  case atStart => exact ⟨0, m, by omega, by omega, rfl, by rw [HM.out]; rfl, rfl⟩
  case round =>
    obtain ⟨k, f, hk, hf, rfl, hfind, rfl⟩ := hrel
    obtain ⟨f, rfl⟩ : ∃ g, f = g + 1 := ⟨f - 1, by omega⟩
    rw [find_step] at hfind
    have HF := Lib.hid hfind
    clear hfind
    have e1 : IntKind.i64.wrap ((k : Int) + 1) = ((k + 1 : Nat) : Int) := by rw [IntKind.wrap_i64]; omega
    by_cases h1 : k + 1 < m
    · have hcx := HC.out (k + 1) (by rw [← HM.out]; omega)
      obtain ⟨x, hx⟩ : ∃ x, x = T[k + 1]'(by rw [← HM.out]; omega) := ⟨_, rfl⟩
      rw [← hx] at hcx
      have hgx : T.getD (k + 1) 0 = x := by rw [hx]; simp [List.getD_eq_getElem?_getD, List.getElem?_eq_getElem (show k + 1 < T.length by rw [← HM.out]; omega)]
      have hx6 : x < 65536 := HV.out.bound x (by rw [hx]; exact List.getElem_mem _)
      have HGX := Lib.hid hgx
      clear hx hgx
      by_cases h2 : x ≤ n
      · go_wp2_with fail
        refine ⟨⟨k + 1, f, h1, by omega, rfl, ?_, trivial⟩, by simp only [intOf]; omega⟩
        have := HF.out
        rw [HGX.out, if_pos ⟨by rw [← HM.out]; exact h1, h2⟩] at this
        exact this
      · go_wp2_with fail
        go_ret
        have := HF.out
        rw [HGX.out, if_neg (fun h => h2 h.2)] at this
        exact ⟨by rw [← this]; rfl, rfl⟩
    · go_wp2_with fail
      go_ret
      have := HF.out
      rw [if_neg (fun h => h1 (by rw [HM.out]; exact h.1))] at this
      exact ⟨by rw [← this]; rfl, rfl⟩
theorem ints_lit (w : World) (l : List Nat) (hl : l.length ≤ 1000) (hx : ∀ x ∈ l, x < 65536) (cs : Array Value) (hcs : cs.toList = numCells .i64 l) (n : Nat) (hn : n = l.length) :
    Nums .i64 65536 (w.alloc (.cells cs 3)) (.slice (some ⟨w.heap.size, 0, none⟩) n n) l := nums_lit .i64 65536 3 w l (by unfold maxLen; omega) hx cs hcs n hn
set_option maxRecDepth 100000 in
theorem lengths_any (w : World) : Calls Try.prog 77 #[] w fun e w' => ∃ g1 g2, e = .returned (.tuple #[.slice (some ⟨g1, 0, none⟩) 29 29, .slice (some ⟨g2, 0, none⟩) 29 29]) ∧ Nums .i64 65536 w' (.slice (some ⟨g1, 0, none⟩) 29 29) lenT ∧ Nums .i64 65536 w' (.slice (some ⟨g2, 0, none⟩) 29 29) lenX ∧ Below w.heap.size w w' ∧ w.heap.size ≤ g1 ∧ w.heap.size ≤ g2 := by
  go_enter Try.func77, Try.ntmps77
  go_wp2
  go_ret2
  have hT := ints_lit w lenT (by decide) (by decide) #[.int .i64 3, .int .i64 4, .int .i64 5, .int .i64 6, .int .i64 7, .int .i64 8, .int .i64 9, .int .i64 10, .int .i64 11, .int .i64 13, .int .i64 15, .int .i64 17, .int .i64 19, .int .i64 23, .int .i64 27, .int .i64 31, .int .i64 35, .int .i64 43, .int .i64 51, .int .i64 59, .int .i64 67, .int .i64 83, .int .i64 99, .int .i64 115, .int .i64 131, .int .i64 163, .int .i64 195, .int .i64 227, .int .i64 258] rfl 29 rfl
  have hX := ints_lit (w.alloc (.cells #[.int .i64 3, .int .i64 4, .int .i64 5, .int .i64 6, .int .i64 7, .int .i64 8, .int .i64 9, .int .i64 10, .int .i64 11, .int .i64 13, .int .i64 15, .int .i64 17, .int .i64 19, .int .i64 23, .int .i64 27, .int .i64 31, .int .i64 35, .int .i64 43, .int .i64 51, .int .i64 59, .int .i64 67, .int .i64 83, .int .i64 99, .int .i64 115, .int .i64 131, .int .i64 163, .int .i64 195, .int .i64 227, .int .i64 258] 3)) lenX (by decide) (by decide) #[.int .i64 0, .int .i64 0, .int .i64 0, .int .i64 0, .int .i64 0, .int .i64 0, .int .i64 0, .int .i64 0, .int .i64 1, .int .i64 1, .int .i64 1, .int .i64 1, .int .i64 2, .int .i64 2, .int .i64 2, .int .i64 2, .int .i64 3, .int .i64 3, .int .i64 3, .int .i64 3, .int .i64 4, .int .i64 4, .int .i64 4, .int .i64 4, .int .i64 5, .int .i64 5, .int .i64 5, .int .i64 5, .int .i64 0] rfl 29 rfl
  have hb := ext_alloc (w.alloc (.cells #[.int .i64 3, .int .i64 4, .int .i64 5, .int .i64 6, .int .i64 7, .int .i64 8, .int .i64 9, .int .i64 10, .int .i64 11, .int .i64 13, .int .i64 15, .int .i64 17, .int .i64 19, .int .i64 23, .int .i64 27, .int .i64 31, .int .i64 35, .int .i64 43, .int .i64 51, .int .i64 59, .int .i64 67, .int .i64 83, .int .i64 99, .int .i64 115, .int .i64 131, .int .i64 163, .int .i64 195, .int .i64 227, .int .i64 258] 3)) (.cells #[.int .i64 0, .int .i64 0, .int .i64 0, .int .i64 0, .int .i64 0, .int .i64 0, .int .i64 0, .int .i64 0, .int .i64 1, .int .i64 1, .int .i64 1, .int .i64 1, .int .i64 2, .int .i64 2, .int .i64 2, .int .i64 2, .int .i64 3, .int .i64 3, .int .i64 3, .int .i64 3, .int .i64 4, .int .i64 4, .int .i64 4, .int .i64 4, .int .i64 5, .int .i64 5, .int .i64 5, .int .i64 5, .int .i64 0] 3)
  refine ⟨w.heap.size, w.heap.size + 1, ?_, hT.below hb (Nat.le_refl _), ?_, ext_trans (ext_alloc w _) hb, Nat.le_refl _, by omega⟩
  · rfl
  · have e : (w.alloc (.cells #[.int .i64 3, .int .i64 4, .int .i64 5, .int .i64 6, .int .i64 7, .int .i64 8, .int .i64 9, .int .i64 10, .int .i64 11, .int .i64 13, .int .i64 15, .int .i64 17, .int .i64 19, .int .i64 23, .int .i64 27, .int .i64 31, .int .i64 35, .int .i64 43, .int .i64 51, .int .i64 59, .int .i64 67, .int .i64 83, .int .i64 99, .int .i64 115, .int .i64 131, .int .i64 163, .int .i64 195, .int .i64 227, .int .i64 258] 3)).heap.size = w.heap.size + 1 := by simp
    rw [e] at hX; exact hX
set_option maxRecDepth 100000 in
theorem distances_any (w : World) : Calls Try.prog 79 #[] w fun e w' => ∃ g1 g2, e = .returned (.tuple #[.slice (some ⟨g1, 0, none⟩) 30 30, .slice (some ⟨g2, 0, none⟩) 30 30]) ∧ Nums .i64 65536 w' (.slice (some ⟨g1, 0, none⟩) 30 30) dstT ∧ Nums .i64 65536 w' (.slice (some ⟨g2, 0, none⟩) 30 30) dstX ∧ Below w.heap.size w w' ∧ w.heap.size ≤ g1 ∧ w.heap.size ≤ g2 := by
  go_enter Try.func79, Try.ntmps79
  go_wp2
  go_ret2
  have hT := ints_lit w dstT (by decide) (by decide) #[.int .i64 1, .int .i64 2, .int .i64 3, .int .i64 4, .int .i64 5, .int .i64 7, .int .i64 9, .int .i64 13, .int .i64 17, .int .i64 25, .int .i64 33, .int .i64 49, .int .i64 65, .int .i64 97, .int .i64 129, .int .i64 193, .int .i64 257, .int .i64 385, .int .i64 513, .int .i64 769, .int .i64 1025, .int .i64 1537, .int .i64 2049, .int .i64 3073, .int .i64 4097, .int .i64 6145, .int .i64 8193, .int .i64 12289, .int .i64 16385, .int .i64 24577] rfl 30 rfl
  have hX := ints_lit (w.alloc (.cells #[.int .i64 1, .int .i64 2, .int .i64 3, .int .i64 4, .int .i64 5, .int .i64 7, .int .i64 9, .int .i64 13, .int .i64 17, .int .i64 25, .int .i64 33, .int .i64 49, .int .i64 65, .int .i64 97, .int .i64 129, .int .i64 193, .int .i64 257, .int .i64 385, .int .i64 513, .int .i64 769, .int .i64 1025, .int .i64 1537, .int .i64 2049, .int .i64 3073, .int .i64 4097, .int .i64 6145, .int .i64 8193, .int .i64 12289, .int .i64 16385, .int .i64 24577] 3)) dstX (by decide) (by decide) #[.int .i64 0, .int .i64 0, .int .i64 0, .int .i64 0, .int .i64 1, .int .i64 1, .int .i64 2, .int .i64 2, .int .i64 3, .int .i64 3, .int .i64 4, .int .i64 4, .int .i64 5, .int .i64 5, .int .i64 6, .int .i64 6, .int .i64 7, .int .i64 7, .int .i64 8, .int .i64 8, .int .i64 9, .int .i64 9, .int .i64 10, .int .i64 10, .int .i64 11, .int .i64 11, .int .i64 12, .int .i64 12, .int .i64 13, .int .i64 13] rfl 30 rfl
  have hb := ext_alloc (w.alloc (.cells #[.int .i64 1, .int .i64 2, .int .i64 3, .int .i64 4, .int .i64 5, .int .i64 7, .int .i64 9, .int .i64 13, .int .i64 17, .int .i64 25, .int .i64 33, .int .i64 49, .int .i64 65, .int .i64 97, .int .i64 129, .int .i64 193, .int .i64 257, .int .i64 385, .int .i64 513, .int .i64 769, .int .i64 1025, .int .i64 1537, .int .i64 2049, .int .i64 3073, .int .i64 4097, .int .i64 6145, .int .i64 8193, .int .i64 12289, .int .i64 16385, .int .i64 24577] 3)) (.cells #[.int .i64 0, .int .i64 0, .int .i64 0, .int .i64 0, .int .i64 1, .int .i64 1, .int .i64 2, .int .i64 2, .int .i64 3, .int .i64 3, .int .i64 4, .int .i64 4, .int .i64 5, .int .i64 5, .int .i64 6, .int .i64 6, .int .i64 7, .int .i64 7, .int .i64 8, .int .i64 8, .int .i64 9, .int .i64 9, .int .i64 10, .int .i64 10, .int .i64 11, .int .i64 11, .int .i64 12, .int .i64 12, .int .i64 13, .int .i64 13] 3)
  refine ⟨w.heap.size, w.heap.size + 1, ?_, hT.below hb (Nat.le_refl _), ?_, ext_trans (ext_alloc w _) hb, Nat.le_refl _, by omega⟩
  · rfl
  · have e : (w.alloc (.cells #[.int .i64 1, .int .i64 2, .int .i64 3, .int .i64 4, .int .i64 5, .int .i64 7, .int .i64 9, .int .i64 13, .int .i64 17, .int .i64 25, .int .i64 33, .int .i64 49, .int .i64 65, .int .i64 97, .int .i64 129, .int .i64 193, .int .i64 257, .int .i64 385, .int .i64 513, .int .i64 769, .int .i64 1025, .int .i64 1537, .int .i64 2049, .int .i64 3073, .int .i64 4097, .int .i64 6145, .int .i64 8193, .int .i64 12289, .int .i64 16385, .int .i64 24577] 3)).heap.size = w.heap.size + 1 := by simp
    rw [e] at hX; exact hX
end Go.Proofs.Ytighlefajekloaa.DefEb
