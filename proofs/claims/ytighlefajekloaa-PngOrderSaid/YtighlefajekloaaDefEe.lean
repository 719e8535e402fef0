/- Package lightwellref06: Stored. -/
import Derived.Test.YtighlefajekloaaDefEd
set_option linter.unusedVariables false
set_option linter.unusedSimpArgs false
namespace Go.Proofs.Ytighlefajekloaa.DefEe
open Go.RowKit Go.Sort BitsM Base Low Bits5 Bits6 Bits8 DefM DefN Qb Qt Qp Qy Rec DefEa DefEb DefEc DefEd
theorem keep_store {wr w' : World} (hb : Below wr.heap.size wr w') (gb : Nat) (v' u' : Value) : Keeps (fun k => k = gb) wr ((w'.setCell ⟨gb, 0, none⟩ v').setCell ⟨gb, 1, none⟩ u') := ((Keeps.of_ext hb (fun k => k = gb)).setCell gb 0 v' (.inl rfl)).setCell gb 1 u' (.inl rfl)
theorem getD_lt256 {l : List Nat} (h : ∀ x ∈ l, x < 256) (i : Nat) : l.getD i 0 < 256 := by
  rw [List.getD_eq_getElem?_getD]
  rcases Nat.lt_or_ge i l.length with h1 | h1
  · rw [List.getElem?_eq_getElem h1]; exact h _ (List.getElem_mem _)
  · rw [List.getElem?_eq_none h1]; decide
theorem cell_of_below {w w' : World} (h : Below w.heap.size w w') {b j : Nat} {v : Value} (hc : w.cell? ⟨b, j, none⟩ = some v) : w'.cell? ⟨b, j, none⟩ = some v := by
  have hb := block_lt_of_cell hc
  exact (h.cell (p := ⟨b, j, none⟩) hb).trans hc
theorem up_al (n : Nat) : up8 n = al8 n := rfl
theorem ord_false (n k : Nat) : ordB false n k = bitsOf n k := rfl
theorem bytes_len (l : List Nat) : (l.flatMap (fun b => bitsOf b 8)).length = 8 * l.length := by
  induction l with
  | nil => rfl
  | cons x l ih => rw [List.flatMap_cons, List.length_append, bitsOf_length, ih, List.length_cons]; omega
theorem align_rx (v : Value) (L : List Bool) (t : Int) (w : World) (hv : Sq w v L) (hL : L.length ≤ 900000) :
    Calls Try.prog 57 #[.agg #[v, .int .i64 t]] w (RX w v (L ++ List.replicate (up8 L.length - L.length) false) t) := ralign5_any v L t w hv hL
set_option maxRecDepth 100000 in
set_option maxHeartbeats 2000000 in
theorem stored_any (v : Value) (L : List Bool) (t : Int) (w : World) (hv : Sq w v L) (vb : Value) (bs : List Nat) (hbs : Nums .u8 256 w vb bs) (last : Nat) (hlast : last < 2) (hlen : bs.length ≤ 4096) (hL : L.length ≤ 600000) :
    Calls Try.prog 65 #[.agg #[v, .int .i64 t], vb, .int .i64 (last : Int)] w (RX w v (L ++ storedB last L.length bs) t) := by
  have hx := Bx.start w v L t hv
  obtain ⟨a, c, rfl, hc1⟩ := hx.slice
  obtain ⟨a1, c1, rfl, hb1, hb2, hb3⟩ := hbs.shape
  obtain ⟨N, hN⟩ : ∃ N, N = L.length := ⟨_, rfl⟩
  obtain ⟨n, hn⟩ : ∃ n, n = bs.length := ⟨_, rfl⟩
  obtain ⟨W, hW⟩ : ∃ W, W = (w.alloc (.cells #[.slice a L.length c, .int .i64 t] 60)).alloc (.cells #[.slice none 0 0, .int .i64 0] 60) := ⟨_, rfl⟩
  rw [← hW] at hx
  rw [← hN] at hx hW ⊢
  rw [← hn] at hbs ⊢
  have hn9 : n ≤ 4096 := by omega
  have hN9 : N ≤ 600000 := by omega
  have HX := Lib.hid hx
  have HW := Lib.hid hW
  have HV := Lib.hid hbs
  have HNL := Lib.hid hN
  have HN := Lib.hid hn
  clear hx hv hN hW hbs hn hb1 hb2 hb3 hlen hL
  have en : IntKind.i64.wrap (65535 - (n : Int)) = ((65535 - n : Nat) : Int) := by rw [IntKind.wrap_i64]; omega
  go_enter Try.func65, Try.ntmps65
  go_upto_region 1 with (fail)
  rw [← HW.out]
  obtain ⟨gr, hgr⟩ : ∃ g, g = w.heap.size + 1 := ⟨_, rfl⟩
  rw [← hgr] at HX ⊢
  obtain ⟨gb, hgb⟩ : ∃ g, g = w.heap.size := ⟨_, rfl⟩
  rw [← hgb] at HX ⊢
  clear hgr hgb HW
  obtain ⟨c1_, c2_, c3_, c4_⟩ := HX.out.cells
  obtain ⟨f1, f2, f3, f4⟩ := HX.out.frozen
  go_wp2_with fail
  refine (bits_lit _ L t _ HX.out.sq last 1 false (by omega) (by omega) (by rw [← HNL.out]; omega) _ _ ?en ?ek).mono ?_
  case en => first | rfl | omega
  case ek => rfl
  rintro e w2_ ⟨v2_, rfl, ⟨hs2, ho2⟩, hb2⟩
  obtain ⟨K1, hK1⟩ : ∃ z9_, z9_ = L ++ ordB false last 1 := ⟨_, rfl⟩
  rw [← hK1] at hs2
  have HK1 := Lib.hid hK1
  have hst := HX.out.store (t' := t) hs2 ho2 hb2
  obtain ⟨a3, c3, rfl, -, -⟩ := hs2.sq.open_
  have h2 := (HX.out.ext hb2)
  clear c1_ c2_ c3_ c4_ f1 f2 f3 f4
  obtain ⟨g1, g2, -, -⟩ := h2.cells
  obtain ⟨x1, x2, -, -⟩ := h2.frozen
  have HX1 := Lib.hid hst
  have HKPK1 := Lib.hid (keep_store hb2 gb (.slice a3 K1.length c3) (.int .i64 t))
  clear hst h2 hs2 ho2 hb2 hK1
  go_upto_region 2 with (fail)
  obtain ⟨W1, hW⟩ : ∃ ww, ww = (w2_.setCell ⟨gb, 0, none⟩ (.slice a3 K1.length c3)).setCell ⟨gb, 1, none⟩ (.int .i64 t) := ⟨_, rfl⟩
  rw [← hW] at HX1 HKPK1 ⊢
  clear hW g1 g2 x1 x2
  obtain ⟨c1_, c2_, c3_, c4_⟩ := HX1.out.cells
  obtain ⟨f1, f2, f3, f4⟩ := HX1.out.frozen
  go_wp2_with fail
  have hK1l : K1.length ≤ N + 3 := by rw [HK1.out, List.length_append, ordB_len, ← HNL.out]; omega
  refine (bits_lit _ K1 t _ HX1.out.sq 0 2 false (by omega) (by omega) (by omega) _ _ ?en ?ek).mono ?_
  case en => first | rfl | omega
  case ek => rfl
  rintro e w2_ ⟨v2_, rfl, ⟨hs2, ho2⟩, hb2⟩
  obtain ⟨K2, hK2⟩ : ∃ z9_, z9_ = K1 ++ ordB false 0 2 := ⟨_, rfl⟩
  rw [← hK2] at hs2
  have HK2 := Lib.hid hK2
  have hst := HX1.out.store (t' := t) hs2 ho2 hb2
  obtain ⟨a3, c3, rfl, -, -⟩ := hs2.sq.open_
  have h2 := (HX1.out.ext hb2)
  clear c1_ c2_ c3_ c4_ f1 f2 f3 f4
  obtain ⟨g1, g2, -, -⟩ := h2.cells
  obtain ⟨x1, x2, -, -⟩ := h2.frozen
  have HX2 := Lib.hid hst
  have HKPK2 := Lib.hid (keep_store hb2 gb (.slice a3 K2.length c3) (.int .i64 t))
  clear hst h2 hs2 ho2 hb2 hK2
  go_upto_region 3 with (fail)
  obtain ⟨W2, hW⟩ : ∃ ww, ww = (w2_.setCell ⟨gb, 0, none⟩ (.slice a3 K2.length c3)).setCell ⟨gb, 1, none⟩ (.int .i64 t) := ⟨_, rfl⟩
  rw [← hW] at HX2 HKPK2 ⊢
  clear hW g1 g2 x1 x2
  obtain ⟨c1_, c2_, c3_, c4_⟩ := HX2.out.cells
  obtain ⟨f1, f2, f3, f4⟩ := HX2.out.frozen
  go_wp2_with fail
  have hK2l : K2.length = N + 3 := by rw [HK2.out, HK1.out, List.length_append, List.length_append, ordB_len, ordB_len, HNL.out]
  refine (align_rx _ K2 t _ HX2.out.sq (by omega)).mono ?_
  rintro e w2_ ⟨v2_, rfl, ⟨hs2, ho2⟩, hb2⟩
  obtain ⟨K3, hK3⟩ : ∃ z9_, z9_ = K2 ++ List.replicate (up8 K2.length - K2.length) false := ⟨_, rfl⟩
  rw [← hK3] at hs2
  have HK3 := Lib.hid hK3
  have hst := HX2.out.store (t' := t) hs2 ho2 hb2
  obtain ⟨a3, c3, rfl, -, -⟩ := hs2.sq.open_
  have h2 := (HX2.out.ext hb2)
  clear c1_ c2_ c3_ c4_ f1 f2 f3 f4
  obtain ⟨g1, g2, -, -⟩ := h2.cells
  obtain ⟨x1, x2, -, -⟩ := h2.frozen
  have HX3 := Lib.hid hst
  have HKPK3 := Lib.hid (keep_store hb2 gb (.slice a3 K3.length c3) (.int .i64 t))
  clear hst h2 hs2 ho2 hb2 hK3
  go_upto_region 4 with (fail)
  obtain ⟨W3, hW⟩ : ∃ ww, ww = (w2_.setCell ⟨gb, 0, none⟩ (.slice a3 K3.length c3)).setCell ⟨gb, 1, none⟩ (.int .i64 t) := ⟨_, rfl⟩
  rw [← hW] at HX3 HKPK3 ⊢
  clear hW g1 g2 x1 x2
  obtain ⟨c1_, c2_, c3_, c4_⟩ := HX3.out.cells
  obtain ⟨f1, f2, f3, f4⟩ := HX3.out.frozen
  go_wp2_with fail
  have hK3l : K3.length ≤ N + 10 := by rw [HK3.out, List.length_append, List.length_replicate]; unfold up8; omega
  refine (bits_lit _ K3 t _ HX3.out.sq n 16 false (by omega) (by omega) (by omega) _ _ ?en ?ek).mono ?_
  case en => first | rfl | omega
  case ek => rfl
  rintro e w2_ ⟨v2_, rfl, ⟨hs2, ho2⟩, hb2⟩
  obtain ⟨K4, hK4⟩ : ∃ z9_, z9_ = K3 ++ ordB false n 16 := ⟨_, rfl⟩
  rw [← hK4] at hs2
  have HK4 := Lib.hid hK4
  have hst := HX3.out.store (t' := t) hs2 ho2 hb2
  obtain ⟨a3, c3, rfl, -, -⟩ := hs2.sq.open_
  have h2 := (HX3.out.ext hb2)
  clear c1_ c2_ c3_ c4_ f1 f2 f3 f4
  obtain ⟨g1, g2, -, -⟩ := h2.cells
  obtain ⟨x1, x2, -, -⟩ := h2.frozen
  have HX4 := Lib.hid hst
  have HKPK4 := Lib.hid (keep_store hb2 gb (.slice a3 K4.length c3) (.int .i64 t))
  clear hst h2 hs2 ho2 hb2 hK4
  go_upto_region 5 with (fail)
  obtain ⟨W4, hW⟩ : ∃ ww, ww = (w2_.setCell ⟨gb, 0, none⟩ (.slice a3 K4.length c3)).setCell ⟨gb, 1, none⟩ (.int .i64 t) := ⟨_, rfl⟩
  rw [← hW] at HX4 HKPK4 ⊢
  clear hW g1 g2 x1 x2
  obtain ⟨c1_, c2_, c3_, c4_⟩ := HX4.out.cells
  obtain ⟨f1, f2, f3, f4⟩ := HX4.out.frozen
  go_wp2_with fail
  have hK4l : K4.length ≤ N + 26 := by rw [HK4.out, List.length_append, ordB_len]; omega
  refine (bits_lit _ K4 t _ HX4.out.sq (65535 - n) 16 false (by omega) (by omega) (by omega) _ _ ?en ?ek).mono ?_
  case en => first | rfl | omega
  case ek => rfl
  rintro e w2_ ⟨v2_, rfl, ⟨hs2, ho2⟩, hb2⟩
  obtain ⟨K5, hK5⟩ : ∃ z9_, z9_ = K4 ++ ordB false (65535 - n) 16 := ⟨_, rfl⟩
  rw [← hK5] at hs2
  have HK5 := Lib.hid hK5
  have hst := HX4.out.store (t' := t) hs2 ho2 hb2
  obtain ⟨a3, c3, rfl, -, -⟩ := hs2.sq.open_
  have h2 := (HX4.out.ext hb2)
  clear c1_ c2_ c3_ c4_ f1 f2 f3 f4
  obtain ⟨g1, g2, -, -⟩ := h2.cells
  obtain ⟨x1, x2, -, -⟩ := h2.frozen
  have HX5 := Lib.hid hst
  have HKPK5 := Lib.hid (keep_store hb2 gb (.slice a3 K5.length c3) (.int .i64 t))
  clear hst h2 hs2 ho2 hb2 hK5
  go_upto_region 6 with (fail)
  obtain ⟨W5, hW⟩ : ∃ ww, ww = (w2_.setCell ⟨gb, 0, none⟩ (.slice a3 K5.length c3)).setCell ⟨gb, 1, none⟩ (.int .i64 t) := ⟨_, rfl⟩
  rw [← hW] at HX5 HKPK5 ⊢
  clear hW g1 g2 x1 x2
  obtain ⟨c1_, c2_, c3_, c4_⟩ := HX5.out.cells
  obtain ⟨f1, f2, f3, f4⟩ := HX5.out.frozen
  have hK5l : K5.length ≤ N + 42 := by rw [HK5.out, List.length_append, ordB_len]; omega
  have HKL := Lib.hid (show K5.length ≤ N + 42 from hK5l)
  have HX5' := Lib.hid (show Bx w (.slice a N c) W5 gb gr t (.slice a3 K5.length c3) K5 from HX5.out)
  clear c1_ c2_ c3_ c4_ f1 f2 f3 f4 hK2l hK3l hK4l hK5l
  go_upto_region 7 with (fail)
  go_loopw [7] (fun v7 wr => ∃ (i : Nat) (v1 : Value) (K : List Bool), i ≤ n ∧ v7 = .int .i64 (i : Int) ∧ Bx w (.slice a N c) wr gb gr t v1 K ∧ K = K5 ++ (bs.take i).flatMap (fun b => bitsOf b 8)) (fun v7 _ => n - (intOf v7).toNat)
  case atStart => exact ⟨0, _, K5, Nat.zero_le _, rfl, HX5'.out, by simp⟩
  case round =>
    obtain ⟨i, v1, K, hi, rfl, hbx, hK⟩ := hrel
    have hKl : K.length ≤ N + 42 + 8 * 4096 := by
      rw [hK, List.length_append, bytes_len, List.length_take]
      have := HKL.out
      omega
    obtain ⟨aw, cw, rfl, -⟩ := hbx.slice
    obtain ⟨c1_, c2_, c3_, c4_⟩ := hbx.cells
    obtain ⟨f1, f2, f3, f4⟩ := hbx.frozen
    have HBX := Lib.hid hbx
    have HK := Lib.hid hK
    clear hbx hK
    by_cases hlt : i < n
    · have d1 : decide (i < n) = true := decide_eq_true hlt
      obtain ⟨bb, ob, cap', e, -, -⟩ := HV.out.cells (by intro e; have := HN.out; rw [e] at this; simp at this; omega)
      simp only [Value.slice.injEq] at e
      obtain ⟨rfl, -, rfl⟩ := e
      obtain ⟨x, hx⟩ : ∃ x, bs.getD i 0 = x := ⟨_, rfl⟩
      have hcx := cell_nums (HV.out.below HBX.out.below (Nat.le_refl _)) i (by rw [← HN.out]; exact hlt)
      rw [hx] at hcx
      have hx256 : x < 256 := by rw [← hx]; exact getD_lt256 HV.out.bound i
      have HCX := Lib.hid hcx
      have HXX := Lib.hid hx
      have htk : (bs.take (i + 1)).flatMap (fun b => bitsOf b 8) = (bs.take i).flatMap (fun b => bitsOf b 8) ++ bitsOf x 8 := by
        have hib : i < bs.length := by rw [← HN.out]; exact hlt
        rw [List.take_succ_eq_append_getElem hib, List.flatMap_append]
        congr 1
        have : bs[i] = x := by rw [← hx]; simp [List.getD_eq_getElem?_getD, List.getElem?_eq_getElem hib]
        rw [this]; simp
      have HTK := Lib.hid htk
      clear hx hcx htk
      go_upto_region 9 with (fail)
      have HDq := Lib.hid (show (fun (s9 : Value × List Bool) w9 => Below wr.heap.size wr w9 ∧ Sq w9 s9.1 s9.2 ∧ ∀ b, s9.1.ownBlock = some b → (.slice aw K.length cw : Value).ownBlock = some b ∨ wr.heap.size ≤ b) (.slice aw K.length cw, K) wr from ⟨Below.refl _ _, HBX.out.sq, fun b e => .inl e⟩)
      have HSTq := Lib.hid (show ∀ s w w1, (fun (s9 : Value × List Bool) w9 => Below wr.heap.size wr w9 ∧ Sq w9 s9.1 s9.2 ∧ ∀ b, s9.1.ownBlock = some b → (.slice aw K.length cw : Value).ownBlock = some b ∨ wr.heap.size ≤ b) s w → Below w.heap.size w w1 → (fun (s9 : Value × List Bool) w9 => Below wr.heap.size wr w9 ∧ Sq w9 s9.1 s9.2 ∧ ∀ b, s9.1.ownBlock = some b → (.slice aw K.length cw : Value).ownBlock = some b ∨ wr.heap.size ≤ b) s w1 from fun s w w1 h hb => ⟨h.1.trans (hb.mono h.1.size), h.2.1.below hb (Nat.le_refl _), h.2.2⟩)
      clear c1_ c2_ c3_ c4_ f1 f2 f3 f4
      refine Qw.wp_region_writes 7 [0, 1, 2, 3, 4, 5] [6] (fun (s9 : Value × List Bool) w9 => Below wr.heap.size wr w9 ∧ Sq w9 s9.1 s9.2 ∧ ∀ b, s9.1.ownBlock = some b → (.slice aw K.length cw : Value).ownBlock = some b ∨ wr.heap.size ≤ b) (.slice aw K.length cw, K) (by kernel_rfl) (by kernel_rfl) (HSTq.out _ _ _ HDq.out ⟨rfl, rfl, rfl, Nat.le_refl _, fun _ _ => rfl⟩) ?_
      refine Qw.Walk.step (A := ?Aq0) (o := ?oq0) HSTq.out (.slice aw K.length cw, K) wr HDq.out ?eq0 ?wq0 30 ?dq0 (by simp) ?hq0 ?nq0
      case eq0 => simp only [List.getElem?_toArray, List.getElem?_cons_succ, List.getElem?_cons_zero]; exact rfl
      case wq0 => exact rfl
      case dq0 => exact rfl
      case hq0 =>
        intro s9 w9 h9
        have q0 := fun d os => cell_regrown ((h9.1.cell (p := ⟨gb, 0, none⟩) HBX.out.lt.1).trans HBX.out.cells.1) d os
        have q1 := fun d os => cell_regrown ((h9.1.cell (p := ⟨gb, 1, none⟩) HBX.out.lt.1).trans HBX.out.cells.2.1) d os
        go_big_quiet_op
        exact rfl
      refine Qw.Walk.step (A := ?Aq1) (o := ?oq1) HSTq.out (.slice aw K.length cw, K) wr HDq.out ?eq1 ?wq1 31 ?dq1 (by simp) ?hq1 ?nq1
      case eq1 => simp only [List.getElem?_toArray, List.getElem?_cons_succ, List.getElem?_cons_zero]; exact rfl
      case wq1 => exact rfl
      case dq1 => exact rfl
      case hq1 =>
        intro s9 w9 h9
        go_big_quiet_op
        exact rfl
      refine Qw.Walk.step (A := ?Aq2) (o := ?oq2) HSTq.out (.slice aw K.length cw, K) wr HDq.out ?eq2 ?wq2 32 ?dq2 (by simp) ?hq2 ?nq2
      case eq2 => simp only [List.getElem?_toArray, List.getElem?_cons_succ, List.getElem?_cons_zero]; exact rfl
      case wq2 => exact rfl
      case dq2 => exact rfl
      case hq2 =>
        intro s9 w9 h9
        go_big_quiet_op
        exact rfl
      refine Qw.Walk.step (A := ?Aq3) (o := ?oq3) HSTq.out (.slice aw K.length cw, K) wr HDq.out ?eq3 ?wq3 33 ?dq3 (by simp) ?hq3 ?nq3
      case eq3 => simp only [List.getElem?_toArray, List.getElem?_cons_succ, List.getElem?_cons_zero]; exact rfl
      case wq3 => exact rfl
      case dq3 => exact rfl
      case hq3 =>
        intro s9 w9 h9
        go_big_quiet_op
        exact rfl
      refine Qw.Walk.step (A := ?Aq4) (o := ?oq4) HSTq.out (.slice aw K.length cw, K) wr HDq.out ?eq4 ?wq4 34 ?dq4 (by simp) ?hq4 ?nq4
      case eq4 => simp only [List.getElem?_toArray, List.getElem?_cons_succ, List.getElem?_cons_zero]; exact rfl
      case wq4 => exact rfl
      case dq4 => exact rfl
      case hq4 =>
        intro s9 w9 h9
        have q0 := fun d os => cell_regrown (cell_of_below h9.1 HCX.out) d os
        go_big_quiet_op
        exact rfl
      refine Qw.Walk.step (A := ?Aq5) (o := ?oq5) HSTq.out (.slice aw K.length cw, K) wr HDq.out ?eq5 ?wq5 35 ?dq5 (by simp) ?hq5 ?nq5
      case eq5 => simp only [List.getElem?_toArray, List.getElem?_cons_succ, List.getElem?_cons_zero]; exact rfl
      case wq5 => exact rfl
      case dq5 => exact rfl
      case hq5 =>
        intro s9 w9 h9
        go_big_quiet_op
        exact rfl
      refine Qw.Chain.call (o := ?oqc) 75 #[.agg #[.slice aw K.length cw, .int .i64 t], .int .i64 (x : Int), .int .i64 8, .bool false] (fun v s => ∃ v2, v = .agg #[v2, .int .i64 t] ∧ s = (v2, K ++ ordB false x 8)) ?eqc ?wqc ?rqc ?cqc ?nqc
      case eqc => simp only [List.getElem?_toArray, List.getElem?_cons_succ, List.getElem?_cons_zero]; exact rfl
      case wqc => exact rfl
      case rqc => intro w9; simp [execOp, Act.eval, Act.put, resolve, go_sem]
      case cqc =>
        intro w9 h9
        refine (bits_lit _ K t w9 (HBX.out.sq.below h9.1 (Nat.le_refl _)) x 8 false (by omega) (by omega) (by omega) _ _ rfl rfl).mono ?_
        rintro e w8 ⟨v8, rfl, ⟨h8, ho8⟩, hb8⟩
        exact ⟨_, (v8, _), rfl, ⟨v8, rfl, rfl⟩, h9.1.trans (hb8.mono h9.1.size), h8, fun b e => by rcases ho8 b e with h | h; exact h9.2.2 b h; exact .inr (Nat.le_trans h9.1.size h)⟩
      rintro v10 s10 ⟨v2_, rfl, rfl⟩
      rintro w2_ ⟨hb2, hs2, ho2⟩
      simp only [List.drop_succ_cons, List.drop_zero, Act.put, List.setIfInBounds_toArray, List.set_cons_succ, List.set_cons_zero]
      simp only at hs2 ho2
      obtain ⟨Kx, hKx⟩ : ∃ z9_, z9_ = K ++ ordB false x 8 := ⟨_, rfl⟩
      rw [← hKx] at hs2
      have HKx := Lib.hid hKx
      have hst := HBX.out.store (t' := t) hs2 ho2 hb2
      obtain ⟨a3, c3, rfl, -, -⟩ := hs2.sq.open_
      have h2 := (HBX.out.ext hb2)
      obtain ⟨g1, g2, -, -⟩ := h2.cells
      obtain ⟨x1, x2, -, -⟩ := h2.frozen
      have HBX2 := Lib.hid hst
      have HKPKx := Lib.hid (keep_store hb2 gb (.slice a3 Kx.length c3) (.int .i64 t))
      clear hst h2 hs2 ho2 hb2 hKx HDq HSTq
      go_wp2_with fail
      refine ⟨⟨i + 1, _, Kx, by omega, rfl, HBX2.out, ?_⟩, by simp only [intOf]; omega⟩
      rw [HKx.out, HK.out, HTK.out, List.append_assoc, ord_false]
    · have d1 : decide (i < n) = false := decide_eq_false hlt
      obtain rfl : i = n := by omega
      go_wp2_with fail
      obtain ⟨z1, z2⟩ := HBX.out.finish (t' := t) HBX.out.sq (fun b e => .inl e) (Below.refl _ _)
      refine bodyPost_ret (results_cell_row rfl _ _ gr 60 _ _ _ rfl z1 Try.underlying60 rfl (by kernel_rfl)) rfl ?_
      refine cast ?_ z2
      congr 1
      rw [HK.out, HK5.out, HK4.out, HK3.out, HK2.out, HK1.out, List.take_of_length_le (by rw [HN.out]; exact Nat.le_refl _)]
      unfold storedB
      simp only [ord_false, List.append_assoc, List.length_append, bitsOf_length, ← HNL.out, ← HN.out, up_al]
end Go.Proofs.Ytighlefajekloaa.DefEe
