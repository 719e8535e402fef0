/- Package lightwellref06: Fixed. -/
import Derived.Test.YtighlefajekloaaDefEe
set_option linter.unusedVariables false
set_option linter.unusedSimpArgs false
namespace Go.Proofs.Ytighlefajekloaa.DefEf
open Go.RowKit Go.Sort BitsM Base Low Bits5 Bits6 Bits8 DefM DefN Qb Qt Qp Qy Rec DefEa DefEb DefEc DefEd DefEe
theorem tok_cells {w : World} {b o n cap : Nat} {l : List Tok} (h : Recs 3 encT w (.slice (some ⟨b, o, none⟩) n cap) l) (i : Nat) (hi : i < l.length) : ∀ k y, (encT l[i])[k]? = some y → w.cell? ⟨b, o + i * 3 + k, none⟩ = some y := by
  obtain ⟨b', o', c', e, -, h2⟩ := h.cells (by intro e; rw [e] at hi; simp at hi)
  simp only [Value.slice.injEq, Option.some.injEq, Addr.mk.injEq, and_true] at e
  obtain ⟨⟨rfl, rfl⟩, -, -⟩ := e
  exact h2 i hi
theorem nums_at {w : World} {g n c : Nat} {T : List Nat} (h : Nums .i64 65536 w (.slice (some ⟨g, 0, none⟩) n c) T) (k : Nat) (hk : k < T.length) : w.cell? ⟨g, k, none⟩ = some (.int .i64 ((T.getD k 0 : Nat) : Int)) := by
  obtain ⟨b', o', c', e, -, h2⟩ := h.cells (by intro e; rw [e] at hk; simp at hk)
  simp only [Value.slice.injEq, Option.some.injEq, Addr.mk.injEq, and_true] at e
  obtain ⟨⟨rfl, rfl⟩, -, -⟩ := e
  have := h2 k hk
  rw [Nat.zero_add] at this
  rw [this]
  simp [List.getD_eq_getElem?_getD, List.getElem?_eq_getElem hk]
theorem len_tab (n : Nat) (h1 : 3 ≤ n) (h2 : n ≤ 258) : findF lenT n < 29 ∧ lenT.getD (findF lenT n) 0 ≤ n ∧ lenX.getD (findF lenT n) 0 ≤ 5 := by
  refine ⟨find_lt lenT n _ _ (by decide), find_le lenT n _ _ (by show 3 ≤ n; exact h1), ?_⟩
  have : ∀ k, k < 29 → lenX.getD k 0 ≤ 5 := by decide
  exact this _ (find_lt lenT n _ _ (by decide))
theorem dst_tab (d : Nat) (h1 : 1 ≤ d) (h2 : d ≤ 32768) : findF dstT d < 30 ∧ dstT.getD (findF dstT d) 0 ≤ d ∧ dstX.getD (findF dstT d) 0 ≤ 13 := by
  refine ⟨find_lt dstT d _ _ (by decide), find_le dstT d _ _ (by show 1 ≤ d; exact h1), ?_⟩
  have : ∀ k, k < 30 → dstX.getD k 0 ≤ 13 := by decide
  exact this _ (find_lt dstT d _ _ (by decide))
theorem tokB_len (t : Tok) (h : okT t) : (tokB t).length ≤ 40 := by
  have hs : ∀ s, (symB s).length ≤ 9 := fun s => by rw [symB_len]; unfold symF; split <;> (try split) <;> (try split) <;> simp
  cases t with
  | lit b => have := hs b; show (symB b).length ≤ 40; omega
  | mat n d =>
    obtain ⟨h1, h2, h3, h4⟩ := h
    have := hs (257 + findF lenT n)
    have h5 := (len_tab n h1 h2).2.2
    have h6 := (dst_tab d h3 h4).2.2
    unfold tokB
    rw [List.length_append, List.length_append, List.length_append, bitsOf_length, bitsOf_length, rev_len]
    omega
theorem toks_len (l : List Tok) (h : ∀ t ∈ l, okT t) : (l.flatMap tokB).length ≤ 40 * l.length := by
  induction l with
  | nil => simp
  | cons t l ih =>
    have h1 := tokB_len t (h t (List.mem_cons_self ..))
    have h2 := ih (fun x hx => h x (List.mem_cons_of_mem _ hx))
    rw [List.flatMap_cons, List.length_append, List.length_cons]; omega
theorem take_tok (l : List Tok) (i : Nat) (hi : i < l.length) : (l.take (i + 1)).flatMap tokB = (l.take i).flatMap tokB ++ tokB l[i] := by
  rw [List.take_succ_eq_append_getElem hi, List.flatMap_append]; simp
set_option maxRecDepth 100000 in
set_option maxHeartbeats 4000000 in
theorem fixedB_any (v : Value) (L : List Bool) (t : Int) (w : World) (hv : Sq w v L) (vl : Value) (l : List Tok) (hl : Recs 3 encT w vl l) (hok : ∀ x ∈ l, okT x) (last : Nat) (hlast : last < 2) (hlen : l.length ≤ 4096) (hL : L.length ≤ 600000) :
    Calls Try.prog 66 #[.agg #[v, .int .i64 t], vl, .int .i64 (last : Int)] w (RX w v (L ++ fixB last l) t) := by
  have hx := Bx.start w v L t hv
  obtain ⟨a, c, rfl, hc1⟩ := hx.slice
  obtain ⟨a1, c1, rfl, -, -⟩ := hl.open_
  obtain ⟨N, hN⟩ : ∃ N, N = L.length := ⟨_, rfl⟩
  obtain ⟨n, hn⟩ : ∃ n, n = l.length := ⟨_, rfl⟩
  obtain ⟨W, hW⟩ : ∃ W, W = (w.alloc (.cells #[.slice a L.length c, .int .i64 t] 60)).alloc (.cells #[.slice none 0 0, .int .i64 0] 60) := ⟨_, rfl⟩
  rw [← hW] at hx
  rw [← hN] at hx hW ⊢
  rw [← hn] at hl ⊢
  have hn9 : n ≤ 4096 := by omega
  have hN9 : N ≤ 600000 := by omega
  have HX := Lib.hid hx
  have HW := Lib.hid hW
  have HT := Lib.hid hl
  have HOK := Lib.hid hok
  have HNL := Lib.hid hN
  have HN := Lib.hid hn
  clear hx hv hN hW hl hn hlen hL hok
  go_enter Try.func66, Try.ntmps66
  go_upto_region 1 with (fail)
  rw [← HW.out]
  obtain ⟨gr, hgr⟩ : ∃ g, g = w.heap.size + 1 := ⟨_, rfl⟩
  rw [← hgr] at HX ⊢
  obtain ⟨gb, hgb⟩ : ∃ g, g = w.heap.size := ⟨_, rfl⟩
  rw [← hgb] at HX ⊢
  clear hgr hgb HW
  obtain ⟨c1_, c2_, c3_, c4_⟩ := HX.out.cells
  obtain ⟨f1, f2, f3, f4⟩ := HX.out.frozen
  go_wp2_with fail
  refine (bits_lit _ L t _ HX.out.sq last 1 false (by omega) (by omega) (by rw [← HNL.out]; omega) _ _ ?en ?ek).mono ?_
  case en => first | rfl | omega
  case ek => rfl
  rintro e w2_ ⟨v2_, rfl, ⟨hs2, ho2⟩, hb2⟩
  obtain ⟨K1, hK1⟩ : ∃ z9_, z9_ = L ++ ordB false last 1 := ⟨_, rfl⟩
  rw [← hK1] at hs2
  have HK1 := Lib.hid hK1
  have hst := HX.out.store (t' := t) hs2 ho2 hb2
  obtain ⟨a3, c3, rfl, -, -⟩ := hs2.sq.open_
  have h2 := (HX.out.ext hb2)
  clear c1_ c2_ c3_ c4_ f1 f2 f3 f4
  obtain ⟨g1, g2, -, -⟩ := h2.cells
  obtain ⟨x1, x2, -, -⟩ := h2.frozen
  have HX1 := Lib.hid hst
  have HKPK1 := Lib.hid (keep_store hb2 gb (.slice a3 K1.length c3) (.int .i64 t))
  clear hst h2 hs2 ho2 hb2 hK1
  go_upto_region 2 with (fail)
  obtain ⟨W1, hW⟩ : ∃ ww, ww = (w2_.setCell ⟨gb, 0, none⟩ (.slice a3 K1.length c3)).setCell ⟨gb, 1, none⟩ (.int .i64 t) := ⟨_, rfl⟩
  rw [← hW] at HX1 HKPK1 ⊢
  clear hW g1 g2 x1 x2
  obtain ⟨c1_, c2_, c3_, c4_⟩ := HX1.out.cells
  obtain ⟨f1, f2, f3, f4⟩ := HX1.out.frozen
  go_wp2_with fail
  have hK1l : K1.length ≤ N + 3 := by rw [HK1.out, List.length_append, ordB_len, ← HNL.out]; omega
  refine (bits_lit _ K1 t _ HX1.out.sq 1 2 false (by omega) (by omega) (by omega) _ _ ?en ?ek).mono ?_
  case en => first | rfl | omega
  case ek => rfl
  rintro e w2_ ⟨v2_, rfl, ⟨hs2, ho2⟩, hb2⟩
  obtain ⟨K2, hK2⟩ : ∃ z9_, z9_ = K1 ++ ordB false 1 2 := ⟨_, rfl⟩
  rw [← hK2] at hs2
  have HK2 := Lib.hid hK2
  have hst := HX1.out.store (t' := t) hs2 ho2 hb2
  obtain ⟨a3, c3, rfl, -, -⟩ := hs2.sq.open_
  have h2 := (HX1.out.ext hb2)
  clear c1_ c2_ c3_ c4_ f1 f2 f3 f4
  obtain ⟨g1, g2, -, -⟩ := h2.cells
  obtain ⟨x1, x2, -, -⟩ := h2.frozen
  have HX2 := Lib.hid hst
  have HKPK2 := Lib.hid (keep_store hb2 gb (.slice a3 K2.length c3) (.int .i64 t))
  clear hst h2 hs2 ho2 hb2 hK2
  go_upto_region 3 with (fail)
  obtain ⟨W2, hW⟩ : ∃ ww, ww = (w2_.setCell ⟨gb, 0, none⟩ (.slice a3 K2.length c3)).setCell ⟨gb, 1, none⟩ (.int .i64 t) := ⟨_, rfl⟩
  rw [← hW] at HX2 HKPK2 ⊢
  clear hW g1 g2 x1 x2
  obtain ⟨c1_, c2_, c3_, c4_⟩ := HX2.out.cells
  obtain ⟨f1, f2, f3, f4⟩ := HX2.out.frozen
  have hK2l : K2.length = N + 3 := by rw [HK2.out, HK1.out, List.length_append, List.length_append, ordB_len, ordB_len, HNL.out]
  have HKL := Lib.hid hK2l
  have HX2' := Lib.hid (show Bx w (.slice a N c) W2 gb gr t (.slice a3 K2.length c3) K2 from HX2.out)
  clear c1_ c2_ c3_ c4_ f1 f2 f3 f4 hK2l hK1l
  go_upto_region 4 with (fail)
  go_loopw [7] (fun v7 wr => ∃ (i : Nat) (v1 : Value) (K : List Bool), i ≤ n ∧ v7 = .int .i64 (i : Int) ∧ Bx w (.slice a N c) wr gb gr t v1 K ∧ K = K2 ++ (l.take i).flatMap tokB) (fun v7 _ => n - (intOf v7).toNat)
  case atStart => exact ⟨0, _, K2, Nat.zero_le _, rfl, HX2'.out, by simp⟩
  case round =>
    obtain ⟨i, v1, K, hi, rfl, hbx, hK⟩ := hrel
    have hKl : K.length ≤ N + 3 + 40 * 4096 := by
      have h1 := toks_len (l.take i) (fun x hx => HOK.out x (List.mem_of_mem_take hx))
      rw [List.length_take] at h1
      rw [hK, List.length_append]
      have := HKL.out
      omega
    obtain ⟨aw, cw, rfl, -⟩ := hbx.slice
    obtain ⟨c1_, c2_, c3_, c4_⟩ := hbx.cells
    obtain ⟨f1, f2, f3, f4⟩ := hbx.frozen
    have HBX := Lib.hid hbx
    have HK := Lib.hid hK
    clear hbx hK
    by_cases hlt : i < n
    · have d1 : decide (i < n) = true := decide_eq_true hlt
      have hil : i < l.length := by rw [← HN.out]; exact hlt
      obtain ⟨bt, ot, ct, e, hbt, -⟩ := HT.out.cells (by intro e; rw [e] at hil; simp at hil)
      simp only [Value.slice.injEq] at e
      obtain ⟨rfl, -, rfl⟩ := e
      have htc := fun (w' : World) (hb : Below w.heap.size w w') => tok_cells (HT.out.below hb (Nat.le_refl _)) i hil
      have htk := take_tok l i hil
      have hokt := HOK.out _ (List.getElem_mem hil)
      obtain ⟨tk, htk2⟩ : ∃ tk, tk = l[i] := ⟨_, rfl⟩
      rw [← htk2] at htc htk hokt
      have HTK := Lib.hid htk
      have HTC := Lib.hid htc
      clear htk htk2 htc hil
      cases tk with
      | lit x =>
        have hx256 : x < 256 := hokt
        have k1 := HTC.out wr HBX.out.below 1 _ rfl
        have HT2 := Lib.hid (HTC.out wr HBX.out.below 2 _ rfl)
        go_upto_region 7 with (fail)
        clear k1
        have HDq := Lib.hid (show (fun (s9 : Value × List Bool) w9 => Below wr.heap.size wr w9 ∧ Sq w9 s9.1 s9.2 ∧ ∀ b, s9.1.ownBlock = some b → (.slice aw K.length cw : Value).ownBlock = some b ∨ wr.heap.size ≤ b) (.slice aw K.length cw, K) wr from ⟨Below.refl _ _, HBX.out.sq, fun b e => .inl e⟩)
        have HSTq := Lib.hid (show ∀ s w w1, (fun (s9 : Value × List Bool) w9 => Below wr.heap.size wr w9 ∧ Sq w9 s9.1 s9.2 ∧ ∀ b, s9.1.ownBlock = some b → (.slice aw K.length cw : Value).ownBlock = some b ∨ wr.heap.size ≤ b) s w → Below w.heap.size w w1 → (fun (s9 : Value × List Bool) w9 => Below wr.heap.size wr w9 ∧ Sq w9 s9.1 s9.2 ∧ ∀ b, s9.1.ownBlock = some b → (.slice aw K.length cw : Value).ownBlock = some b ∨ wr.heap.size ≤ b) s w1 from fun s w w1 h hb => ⟨h.1.trans (hb.mono h.1.size), h.2.1.below hb (Nat.le_refl _), h.2.2⟩)
        clear c1_ c2_ c3_ c4_ f1 f2 f3 f4
        refine Qw.wp_region_writes 8 [0, 1, 2, 3, 4, 5, 6] [7] (fun (s9 : Value × List Bool) w9 => Below wr.heap.size wr w9 ∧ Sq w9 s9.1 s9.2 ∧ ∀ b, s9.1.ownBlock = some b → (.slice aw K.length cw : Value).ownBlock = some b ∨ wr.heap.size ≤ b) (.slice aw K.length cw, K) (by kernel_rfl) (by kernel_rfl) (HSTq.out _ _ _ HDq.out ⟨rfl, rfl, rfl, Nat.le_refl _, fun _ _ => rfl⟩) ?_
        refine Qw.Walk.step (A := ?Aq0) (o := ?oq0) HSTq.out (.slice aw K.length cw, K) wr HDq.out ?eq0 ?wq0 28 ?dq0 (by simp) ?hq0 ?nq0
        case eq0 => simp only [List.getElem?_toArray, List.getElem?_cons_succ, List.getElem?_cons_zero]; exact rfl
        case wq0 => exact rfl
        case dq0 => exact rfl
        case hq0 =>
          intro s9 w9 h9
          have q0 := fun d os => cell_regrown ((h9.1.cell (p := ⟨gb, 0, none⟩) HBX.out.lt.1).trans HBX.out.cells.1) d os
          have q1 := fun d os => cell_regrown ((h9.1.cell (p := ⟨gb, 1, none⟩) HBX.out.lt.1).trans HBX.out.cells.2.1) d os
          go_big_quiet_op
          exact rfl
        refine Qw.Walk.step (A := ?Aq1) (o := ?oq1) HSTq.out (.slice aw K.length cw, K) wr HDq.out ?eq1 ?wq1 29 ?dq1 (by simp) ?hq1 ?nq1
        case eq1 => simp only [List.getElem?_toArray, List.getElem?_cons_succ, List.getElem?_cons_zero]; exact rfl
        case wq1 => exact rfl
        case dq1 => exact rfl
        case hq1 =>
          intro s9 w9 h9
          go_big_quiet_op
          exact rfl
        refine Qw.Walk.step (A := ?Aq2) (o := ?oq2) HSTq.out (.slice aw K.length cw, K) wr HDq.out ?eq2 ?wq2 30 ?dq2 (by simp) ?hq2 ?nq2
        case eq2 => simp only [List.getElem?_toArray, List.getElem?_cons_succ, List.getElem?_cons_zero]; exact rfl
        case wq2 => exact rfl
        case dq2 => exact rfl
        case hq2 =>
          intro s9 w9 h9
          go_big_quiet_op
          exact rfl
        refine Qw.Walk.step (A := ?Aq3) (o := ?oq3) HSTq.out (.slice aw K.length cw, K) wr HDq.out ?eq3 ?wq3 31 ?dq3 (by simp) ?hq3 ?nq3
        case eq3 => simp only [List.getElem?_toArray, List.getElem?_cons_succ, List.getElem?_cons_zero]; exact rfl
        case wq3 => exact rfl
        case dq3 => exact rfl
        case hq3 =>
          intro s9 w9 h9
          go_big_quiet_op
          exact rfl
        refine Qw.Walk.step (A := ?Aq4) (o := ?oq4) HSTq.out (.slice aw K.length cw, K) wr HDq.out ?eq4 ?wq4 32 ?dq4 (by simp) ?hq4 ?nq4
        case eq4 => simp only [List.getElem?_toArray, List.getElem?_cons_succ, List.getElem?_cons_zero]; exact rfl
        case wq4 => exact rfl
        case dq4 => exact rfl
        case hq4 =>
          intro s9 w9 h9
          go_big_quiet_op
          exact rfl
        refine Qw.Walk.step (A := ?Aq5) (o := ?oq5) HSTq.out (.slice aw K.length cw, K) wr HDq.out ?eq5 ?wq5 33 ?dq5 (by simp) ?hq5 ?nq5
        case eq5 => simp only [List.getElem?_toArray, List.getElem?_cons_succ, List.getElem?_cons_zero]; exact rfl
        case wq5 => exact rfl
        case dq5 => exact rfl
        case hq5 =>
          intro s9 w9 h9
          have q0 := fun d os => cell_regrown (cell_of_below h9.1 HT2.out) d os
          go_big_quiet_op
          exact rfl
        refine Qw.Walk.step (A := ?Aq6) (o := ?oq6) HSTq.out (.slice aw K.length cw, K) wr HDq.out ?eq6 ?wq6 34 ?dq6 (by simp) ?hq6 ?nq6
        case eq6 => simp only [List.getElem?_toArray, List.getElem?_cons_succ, List.getElem?_cons_zero]; exact rfl
        case wq6 => exact rfl
        case dq6 => exact rfl
        case hq6 =>
          intro s9 w9 h9
          go_big_quiet_op
          exact rfl
        refine Qw.Chain.call (o := ?oqc) 76 #[.agg #[.slice aw K.length cw, .int .i64 t], .int .i64 (x : Int)] (fun v s => ∃ v2, v = .agg #[v2, .int .i64 t] ∧ s = (v2, K ++ symB x)) ?eqc ?wqc ?rqc ?cqc ?nqc
        case eqc => simp only [List.getElem?_toArray, List.getElem?_cons_succ, List.getElem?_cons_zero]; exact rfl
        case wqc => exact rfl
        case rqc => intro w9; simp [execOp, Act.eval, Act.put, resolve, go_sem]
        case cqc =>
          intro w9 h9
          refine (fixed_any _ K t w9 (HBX.out.sq.below h9.1 (Nat.le_refl _)) x (by omega) (by omega)).mono ?_
          rintro e w8 ⟨v8, rfl, ⟨h8, ho8⟩, hb8⟩
          exact ⟨_, (v8, _), rfl, ⟨v8, rfl, rfl⟩, h9.1.trans (hb8.mono h9.1.size), h8, fun b e => by rcases ho8 b e with h | h; exact h9.2.2 b h; exact .inr (Nat.le_trans h9.1.size h)⟩
        rintro v10 s10 ⟨v2_, rfl, rfl⟩
        rintro w2_ ⟨hb2, hs2, ho2⟩
        simp only [List.drop_succ_cons, List.drop_zero, Act.put, List.setIfInBounds_toArray, List.set_cons_succ, List.set_cons_zero]
        simp only at hs2 ho2
        obtain ⟨Kx, hKx⟩ : ∃ z9_, z9_ = K ++ symB x := ⟨_, rfl⟩
        rw [← hKx] at hs2
        have HKx := Lib.hid hKx
        have hst := HBX.out.store (t' := t) hs2 ho2 hb2
        obtain ⟨a3, c3, rfl, -, -⟩ := hs2.sq.open_
        have h2 := (HBX.out.ext hb2)
        obtain ⟨g1, g2, -, -⟩ := h2.cells
        obtain ⟨x1, x2, -, -⟩ := h2.frozen
        have HBX2 := Lib.hid hst
        have HKPKx := Lib.hid (keep_store hb2 gb (.slice a3 Kx.length c3) (.int .i64 t))
        clear hst h2 hs2 ho2 hb2 hKx HDq HSTq
        go_wp2_with fail
        refine ⟨⟨i + 1, _, Kx, by omega, rfl, HBX2.out, ?_⟩, by simp only [intOf]; omega⟩
        rw [HKx.out, HK.out, HTK.out, List.append_assoc]; rfl
      | mat m d =>
        obtain ⟨h3, h258, hd1, hd2⟩ := hokt
        obtain ⟨j1, j2, j3⟩ := len_tab m h3 h258
        obtain ⟨j4, j5, j6⟩ := dst_tab d hd1 hd2
        obtain ⟨ka, hka⟩ : ∃ k, k = findF lenT m := ⟨_, rfl⟩
        obtain ⟨kb, hkb⟩ : ∃ k, k = findF dstT d := ⟨_, rfl⟩
        rw [← hka] at j1 j2 j3
        rw [← hkb] at j4 j5 j6
        obtain ⟨la, hla⟩ : ∃ x, x = lenT.getD ka 0 := ⟨_, rfl⟩
        obtain ⟨xa, hxa⟩ : ∃ x, x = lenX.getD ka 0 := ⟨_, rfl⟩
        obtain ⟨lb, hlb⟩ : ∃ x, x = dstT.getD kb 0 := ⟨_, rfl⟩
        obtain ⟨xb, hxb⟩ : ∃ x, x = dstX.getD kb 0 := ⟨_, rfl⟩
        rw [← hla] at j2
        rw [← hxa] at j3
        rw [← hlb] at j5
        rw [← hxb] at j6
        have htok : tokB (.mat m d) = symB (257 + ka) ++ bitsOf (m - la) xa ++ rev kb 5 ++ bitsOf (d - lb) xb := by rw [hla, hxa, hlb, hxb, hka, hkb]; rfl
        have HTOK := Lib.hid htok
        have HKA := Lib.hid hka
        have HKB := Lib.hid hkb
        have HLA := Lib.hid hla
        have HXA := Lib.hid hxa
        have HLB := Lib.hid hlb
        have HXB := Lib.hid hxb
        clear hka hkb hla hxa hlb hxb htok
        obtain ⟨ma, hma⟩ : ∃ x, x = m - la := ⟨_, rfl⟩
        obtain ⟨db, hdb⟩ : ∃ x, x = d - lb := ⟨_, rfl⟩
        have em : IntKind.i64.wrap ((m : Int) - (la : Int)) = (ma : Int) := by rw [IntKind.wrap_i64]; omega
        have ed : IntKind.i64.wrap ((d : Int) - (lb : Int)) = (db : Int) := by rw [IntKind.wrap_i64]; omega
        have hma9 : ma ≤ 258 := by omega
        have hdb9 : db ≤ 32768 := by omega
        have HMA := Lib.hid hma
        have HDB := Lib.hid hdb
        clear hma hdb
        have k1 := HTC.out wr HBX.out.below 1 _ rfl
        have dne : ((d : Int) == 0) = false := by simp; omega
        go_wp2_with fail
        refine (lengths_any wr).mono ?_
        rintro e wA ⟨g1, g2, rfl, ht1, ht2, hbA, hg1, hg2⟩
        have HBA := Lib.hid (HBX.out.ext hbA)
        have HT1 := Lib.hid ht1
        have HT2 := Lib.hid ht2
        clear ht1 ht2 hbA c1_ c2_ c3_ c4_ f1 f2 f3 f4 k1
        have k0 := HTC.out wA HBA.out.below 0 _ rfl
        have k0 : wA.cell? ⟨bt, ot + i * 3, none⟩ = some (.int .i64 (m : Int)) := k0
        have hf1 := find_any _ lenT wA HT1.out m (by omega) (by decide) (by decide)
        rw [← HKA.out] at hf1
        have HF1 := Lib.hid hf1
        clear hf1
        go_wp2_with fail
        refine HF1.out.mono ?_
        rintro e wA' ⟨rfl, rfl⟩
        obtain ⟨c1_, c2_, c3_, c4_⟩ := HBA.out.cells
        obtain ⟨f1, f2, f3, f4⟩ := HBA.out.frozen
        clear k0
        have e257 : IntKind.i64.wrap (257 + (ka : Int)) = ((257 + ka : Nat) : Int) := by rw [IntKind.wrap_i64]; omega
        go_wp2_with fail
        refine (fixed_any _ K t _ HBA.out.sq (257 + ka) (by omega) (by omega)).mono ?_
        rintro e w2_ ⟨v2_, rfl, ⟨hs2, ho2⟩, hb2⟩
        obtain ⟨Ka, hKa⟩ : ∃ z9_, z9_ = K ++ symB (257 + ka) := ⟨_, rfl⟩
        rw [← hKa] at hs2
        have HKa := Lib.hid hKa
        have hst := HBA.out.store (t' := t) hs2 ho2 hb2
        obtain ⟨a3, c3, rfl, -, -⟩ := hs2.sq.open_
        have h2 := (HBA.out.ext hb2)
        clear c1_ c2_ c3_ c4_ f1 f2 f3 f4
        obtain ⟨g1, g2, -, -⟩ := h2.cells
        obtain ⟨x1, x2, -, -⟩ := h2.frozen
        have HBXa := Lib.hid hst
        have HKPKa := Lib.hid (keep_store hb2 gb (.slice a3 Ka.length c3) (.int .i64 t))
        clear hst h2 hs2 ho2 hb2 hKa
        go_upto_region 11 with (fail)
        obtain ⟨Wa, hW⟩ : ∃ ww, ww = (w2_.setCell ⟨gb, 0, none⟩ (.slice a3 Ka.length c3)).setCell ⟨gb, 1, none⟩ (.int .i64 t) := ⟨_, rfl⟩
        rw [← hW] at HBXa HKPKa ⊢
        clear hW g1 g2 x1 x2
        obtain ⟨c1_, c2_, c3_, c4_⟩ := HBXa.out.cells
        obtain ⟨f1, f2, f3, f4⟩ := HBXa.out.frozen
        have hKal : Ka.length ≤ N + 12 + 40 * 4096 := by
          rw [HKa.out, List.length_append]
          have : (symB (257 + ka)).length ≤ 9 := by rw [symB_len]; unfold symF; split <;> (try split) <;> (try split) <;> simp
          omega
        have hgx := HBX.out.lt.1
        have HTA1 := Lib.hid (HT1.out.frame HKPKa.out (fun b hb h => by simp only [Value.ownBlock, Option.some.injEq] at hb; omega))
        have HTA2 := Lib.hid (HT2.out.frame HKPKa.out (fun b hb h => by simp only [Value.ownBlock, Option.some.injEq] at hb; omega))
        have HC0 := Lib.hid (show Wa.cell? ⟨bt, ot + i * 3, none⟩ = some (.int .i64 (m : Int)) from HTC.out Wa HBXa.out.below 0 _ rfl)
        have HC1 := Lib.hid (show Wa.cell? ⟨g1, ka, none⟩ = some (.int .i64 (la : Int)) from by rw [HLA.out]; exact nums_at HTA1.out ka (by show ka < 29; exact j1))
        have HC2 := Lib.hid (show Wa.cell? ⟨g2, ka, none⟩ = some (.int .i64 (xa : Int)) from by rw [HXA.out]; exact nums_at HTA2.out ka (by show ka < 29; exact j1))
        have hgs : g1 < Wa.heap.size ∧ g2 < Wa.heap.size := ⟨block_lt_of_cell HC1.out, block_lt_of_cell HC2.out⟩
        clear HT1 HT2 HTA1 HTA2
        have HDr := Lib.hid (show (fun (s9 : Value × List Bool) w9 => Below Wa.heap.size Wa w9 ∧ Sq w9 s9.1 s9.2 ∧ ∀ b, s9.1.ownBlock = some b → (.slice a3 Ka.length c3 : Value).ownBlock = some b ∨ Wa.heap.size ≤ b) (.slice a3 Ka.length c3, Ka) Wa from ⟨Below.refl _ _, HBXa.out.sq, fun b e => .inl e⟩)
        have HSTr := Lib.hid (show ∀ s w w1, (fun (s9 : Value × List Bool) w9 => Below Wa.heap.size Wa w9 ∧ Sq w9 s9.1 s9.2 ∧ ∀ b, s9.1.ownBlock = some b → (.slice a3 Ka.length c3 : Value).ownBlock = some b ∨ Wa.heap.size ≤ b) s w → Below w.heap.size w w1 → (fun (s9 : Value × List Bool) w9 => Below Wa.heap.size Wa w9 ∧ Sq w9 s9.1 s9.2 ∧ ∀ b, s9.1.ownBlock = some b → (.slice a3 Ka.length c3 : Value).ownBlock = some b ∨ Wa.heap.size ≤ b) s w1 from fun s w w1 h hb => ⟨h.1.trans (hb.mono h.1.size), h.2.1.below hb (Nat.le_refl _), h.2.2⟩)
        clear c1_ c2_ c3_ c4_ f1 f2 f3 f4
        refine Qw.wp_region_writes 16 [0, 1, 2, 3, 4, 5, 6, 7, 8, 9, 10, 11, 12, 13, 14] [15] (fun (s9 : Value × List Bool) w9 => Below Wa.heap.size Wa w9 ∧ Sq w9 s9.1 s9.2 ∧ ∀ b, s9.1.ownBlock = some b → (.slice a3 Ka.length c3 : Value).ownBlock = some b ∨ Wa.heap.size ≤ b) (.slice a3 Ka.length c3, Ka) (by kernel_rfl) (by kernel_rfl) (HSTr.out _ _ _ HDr.out ⟨rfl, rfl, rfl, Nat.le_refl _, fun _ _ => rfl⟩) ?_
        refine Qw.Walk.step (A := ?Ar0) (o := ?or0) HSTr.out (.slice a3 Ka.length c3, Ka) Wa HDr.out ?er0 ?wr0 51 ?dr0 (by simp) ?hr0 ?nr0
        case er0 => simp only [List.getElem?_toArray, List.getElem?_cons_succ, List.getElem?_cons_zero]; exact rfl
        case wr0 => exact rfl
        case dr0 => exact rfl
        case hr0 =>
          intro s9 w9 h9
          have q0 := fun d os => cell_regrown ((h9.1.cell (p := ⟨gb, 0, none⟩) HBXa.out.lt.1).trans HBXa.out.cells.1) d os
          have q1 := fun d os => cell_regrown ((h9.1.cell (p := ⟨gb, 1, none⟩) HBXa.out.lt.1).trans HBXa.out.cells.2.1) d os
          go_big_quiet_op
          exact rfl
        refine Qw.Walk.step (A := ?Ar1) (o := ?or1) HSTr.out (.slice a3 Ka.length c3, Ka) Wa HDr.out ?er1 ?wr1 52 ?dr1 (by simp) ?hr1 ?nr1
        case er1 => simp only [List.getElem?_toArray, List.getElem?_cons_succ, List.getElem?_cons_zero]; exact rfl
        case wr1 => exact rfl
        case dr1 => exact rfl
        case hr1 =>
          intro s9 w9 h9
          go_big_quiet_op
          exact rfl
        refine Qw.Walk.step (A := ?Ar2) (o := ?or2) HSTr.out (.slice a3 Ka.length c3, Ka) Wa HDr.out ?er2 ?wr2 53 ?dr2 (by simp) ?hr2 ?nr2
        case er2 => simp only [List.getElem?_toArray, List.getElem?_cons_succ, List.getElem?_cons_zero]; exact rfl
        case wr2 => exact rfl
        case dr2 => exact rfl
        case hr2 =>
          intro s9 w9 h9
          go_big_quiet_op
          exact rfl
        refine Qw.Walk.step (A := ?Ar3) (o := ?or3) HSTr.out (.slice a3 Ka.length c3, Ka) Wa HDr.out ?er3 ?wr3 54 ?dr3 (by simp) ?hr3 ?nr3
        case er3 => simp only [List.getElem?_toArray, List.getElem?_cons_succ, List.getElem?_cons_zero]; exact rfl
        case wr3 => exact rfl
        case dr3 => exact rfl
        case hr3 =>
          intro s9 w9 h9
          go_big_quiet_op
          exact rfl
        refine Qw.Walk.step (A := ?Ar4) (o := ?or4) HSTr.out (.slice a3 Ka.length c3, Ka) Wa HDr.out ?er4 ?wr4 55 ?dr4 (by simp) ?hr4 ?nr4
        case er4 => simp only [List.getElem?_toArray, List.getElem?_cons_succ, List.getElem?_cons_zero]; exact rfl
        case wr4 => exact rfl
        case dr4 => exact rfl
        case hr4 =>
          intro s9 w9 h9
          go_big_quiet_op
          exact rfl
        refine Qw.Walk.step (A := ?Ar5) (o := ?or5) HSTr.out (.slice a3 Ka.length c3, Ka) Wa HDr.out ?er5 ?wr5 56 ?dr5 (by simp) ?hr5 ?nr5
        case er5 => simp only [List.getElem?_toArray, List.getElem?_cons_succ, List.getElem?_cons_zero]; exact rfl
        case wr5 => exact rfl
        case dr5 => exact rfl
        case hr5 =>
          intro s9 w9 h9
          have q0 := fun d os => cell_regrown (cell_of_below h9.1 HC0.out) d os
          go_big_quiet_op
          exact rfl
        refine Qw.Walk.step (A := ?Ar6) (o := ?or6) HSTr.out (.slice a3 Ka.length c3, Ka) Wa HDr.out ?er6 ?wr6 57 ?dr6 (by simp) ?hr6 ?nr6
        case er6 => simp only [List.getElem?_toArray, List.getElem?_cons_succ, List.getElem?_cons_zero]; exact rfl
        case wr6 => exact rfl
        case dr6 => exact rfl
        case hr6 =>
          intro s9 w9 h9
          go_big_quiet_op
          exact rfl
        refine Qw.Walk.step (A := ?Ar7) (o := ?or7) HSTr.out (.slice a3 Ka.length c3, Ka) Wa HDr.out ?er7 ?wr7 58 ?dr7 (by simp) ?hr7 ?nr7
        case er7 => simp only [List.getElem?_toArray, List.getElem?_cons_succ, List.getElem?_cons_zero]; exact rfl
        case wr7 => exact rfl
        case dr7 => exact rfl
        case hr7 =>
          intro s9 w9 h9
          go_big_quiet_op
          exact rfl
        refine Qw.Walk.step (A := ?Ar8) (o := ?or8) HSTr.out (.slice a3 Ka.length c3, Ka) Wa HDr.out ?er8 ?wr8 59 ?dr8 (by simp) ?hr8 ?nr8
        case er8 => simp only [List.getElem?_toArray, List.getElem?_cons_succ, List.getElem?_cons_zero]; exact rfl
        case wr8 => exact rfl
        case dr8 => exact rfl
        case hr8 =>
          intro s9 w9 h9
          go_big_quiet_op
          exact rfl
        refine Qw.Walk.step (A := ?Ar9) (o := ?or9) HSTr.out (.slice a3 Ka.length c3, Ka) Wa HDr.out ?er9 ?wr9 60 ?dr9 (by simp) ?hr9 ?nr9
        case er9 => simp only [List.getElem?_toArray, List.getElem?_cons_succ, List.getElem?_cons_zero]; exact rfl
        case wr9 => exact rfl
        case dr9 => exact rfl
        case hr9 =>
          intro s9 w9 h9
          have q0 := fun d os => cell_regrown (cell_of_below h9.1 HC1.out) d os
          go_big_quiet_op
          exact rfl
        refine Qw.Walk.step (A := ?Ar10) (o := ?or10) HSTr.out (.slice a3 Ka.length c3, Ka) Wa HDr.out ?er10 ?wr10 61 ?dr10 (by simp) ?hr10 ?nr10
        case er10 => simp only [List.getElem?_toArray, List.getElem?_cons_succ, List.getElem?_cons_zero]; exact rfl
        case wr10 => exact rfl
        case dr10 => exact rfl
        case hr10 =>
          intro s9 w9 h9
          go_big_quiet_op
          exact rfl
        refine Qw.Walk.step (A := ?Ar11) (o := ?or11) HSTr.out (.slice a3 Ka.length c3, Ka) Wa HDr.out ?er11 ?wr11 62 ?dr11 (by simp) ?hr11 ?nr11
        case er11 => simp only [List.getElem?_toArray, List.getElem?_cons_succ, List.getElem?_cons_zero]; exact rfl
        case wr11 => exact rfl
        case dr11 => exact rfl
        case hr11 =>
          intro s9 w9 h9
          go_big_quiet_op
          exact rfl
        refine Qw.Walk.step (A := ?Ar12) (o := ?or12) HSTr.out (.slice a3 Ka.length c3, Ka) Wa HDr.out ?er12 ?wr12 63 ?dr12 (by simp) ?hr12 ?nr12
        case er12 => simp only [List.getElem?_toArray, List.getElem?_cons_succ, List.getElem?_cons_zero]; exact rfl
        case wr12 => exact rfl
        case dr12 => exact rfl
        case hr12 =>
          intro s9 w9 h9
          go_big_quiet_op
          exact rfl
        refine Qw.Walk.step (A := ?Ar13) (o := ?or13) HSTr.out (.slice a3 Ka.length c3, Ka) Wa HDr.out ?er13 ?wr13 64 ?dr13 (by simp) ?hr13 ?nr13
        case er13 => simp only [List.getElem?_toArray, List.getElem?_cons_succ, List.getElem?_cons_zero]; exact rfl
        case wr13 => exact rfl
        case dr13 => exact rfl
        case hr13 =>
          intro s9 w9 h9
          go_big_quiet_op
          exact rfl
        refine Qw.Walk.step (A := ?Ar14) (o := ?or14) HSTr.out (.slice a3 Ka.length c3, Ka) Wa HDr.out ?er14 ?wr14 65 ?dr14 (by simp) ?hr14 ?nr14
        case er14 => simp only [List.getElem?_toArray, List.getElem?_cons_succ, List.getElem?_cons_zero]; exact rfl
        case wr14 => exact rfl
        case dr14 => exact rfl
        case hr14 =>
          intro s9 w9 h9
          have q0 := fun d os => cell_regrown (cell_of_below h9.1 HC2.out) d os
          go_big_quiet_op
          exact rfl
        refine Qw.Chain.call (o := ?orc) 75 #[.agg #[.slice a3 Ka.length c3, .int .i64 t], .int .i64 (ma : Int), .int .i64 (xa : Int), .bool false] (fun v s => ∃ v2, v = .agg #[v2, .int .i64 t] ∧ s = (v2, Ka ++ ordB false ma xa)) ?erc ?wrc ?rrc ?crc ?nrc
        case erc => simp only [List.getElem?_toArray, List.getElem?_cons_succ, List.getElem?_cons_zero]; exact rfl
        case wrc => exact rfl
        case rrc => intro w9; simp [execOp, Act.eval, Act.put, resolve, go_sem]
        case crc =>
          intro w9 h9
          refine (bits_lit _ Ka t w9 (HBXa.out.sq.below h9.1 (Nat.le_refl _)) ma xa false (by omega) (by omega) (by omega) _ _ rfl rfl).mono ?_
          rintro e w8 ⟨v8, rfl, ⟨h8, ho8⟩, hb8⟩
          exact ⟨_, (v8, _), rfl, ⟨v8, rfl, rfl⟩, h9.1.trans (hb8.mono h9.1.size), h8, fun b e => by rcases ho8 b e with h | h; exact h9.2.2 b h; exact .inr (Nat.le_trans h9.1.size h)⟩
        rintro v10 s10 ⟨v2_, rfl, rfl⟩
        rintro w2_ ⟨hb2, hs2, ho2⟩
        simp only [List.drop_succ_cons, List.drop_zero, Act.put, List.setIfInBounds_toArray, List.set_cons_succ, List.set_cons_zero]
        simp only at hs2 ho2
        obtain ⟨Kb, hKb⟩ : ∃ z9_, z9_ = Ka ++ ordB false ma xa := ⟨_, rfl⟩
        rw [← hKb] at hs2
        have HKb := Lib.hid hKb
        have hst := HBXa.out.store (t' := t) hs2 ho2 hb2
        obtain ⟨a3, c3, rfl, -, -⟩ := hs2.sq.open_
        have h2 := (HBXa.out.ext hb2)
        obtain ⟨g1, g2, -, -⟩ := h2.cells
        obtain ⟨x1, x2, -, -⟩ := h2.frozen
        have HBXb := Lib.hid hst
        have HKPKb := Lib.hid (keep_store hb2 gb (.slice a3 Kb.length c3) (.int .i64 t))
        clear hst h2 hs2 ho2 hb2 hKb HDr HSTr
        go_upto_region 12 with (fail)
        obtain ⟨Wb, hW⟩ : ∃ ww, ww = (w2_.setCell ⟨gb, 0, none⟩ (.slice a3 Kb.length c3)).setCell ⟨gb, 1, none⟩ (.int .i64 t) := ⟨_, rfl⟩
        rw [← hW] at HBXb HKPKb ⊢
        clear hW g1 g2 x1 x2
        obtain ⟨c1_, c2_, c3_, c4_⟩ := HBXb.out.cells
        obtain ⟨f1, f2, f3, f4⟩ := HBXb.out.frozen
        have hKbl : Kb.length ≤ N + 30 + 40 * 4096 := by
          rw [HKb.out, List.length_append, ordB_len]
          omega
        clear HC0 HC1 HC2
        go_wp2_with fail
        refine (distances_any Wb).mono ?_
        rintro e wC ⟨g3, g4, rfl, ht3, ht4, hbC, hg3, hg4⟩
        have HBC := Lib.hid (HBXb.out.ext hbC)
        have HT3 := Lib.hid ht3
        have HT4 := Lib.hid ht4
        have hgy := HBXb.out.lt.1
        clear ht3 ht4 hbC c1_ c2_ c3_ c4_ f1 f2 f3 f4
        have k0 := HTC.out wC HBC.out.below 1 _ rfl
        have hf1 := find_any _ dstT wC HT3.out d (by omega) (by decide) (by decide)
        rw [← HKB.out] at hf1
        have HF1 := Lib.hid hf1
        clear hf1
        go_wp2_with fail
        refine HF1.out.mono ?_
        rintro e wC' ⟨rfl, rfl⟩
        obtain ⟨c1_, c2_, c3_, c4_⟩ := HBC.out.cells
        obtain ⟨f1, f2, f3, f4⟩ := HBC.out.frozen
        clear k0
        go_wp2_with fail
        refine (bits_lit _ Kb t _ HBC.out.sq kb 5 true (by omega) (by omega) (by omega) _ _ rfl rfl).mono ?_
        rintro e w2_ ⟨v2_, rfl, ⟨hs2, ho2⟩, hb2⟩
        obtain ⟨Kc, hKc⟩ : ∃ z9_, z9_ = Kb ++ ordB true kb 5 := ⟨_, rfl⟩
        rw [← hKc] at hs2
        have HKc := Lib.hid hKc
        have hst := HBC.out.store (t' := t) hs2 ho2 hb2
        obtain ⟨a3, c3, rfl, -, -⟩ := hs2.sq.open_
        have h2 := (HBC.out.ext hb2)
        clear c1_ c2_ c3_ c4_ f1 f2 f3 f4
        obtain ⟨g1, g2, -, -⟩ := h2.cells
        obtain ⟨x1, x2, -, -⟩ := h2.frozen
        have HBXc := Lib.hid hst
        have HKPKc := Lib.hid (keep_store hb2 gb (.slice a3 Kc.length c3) (.int .i64 t))
        clear hst h2 hs2 ho2 hb2 hKc
        go_upto_region 15 with (fail)
        obtain ⟨Wc, hW⟩ : ∃ ww, ww = (w2_.setCell ⟨gb, 0, none⟩ (.slice a3 Kc.length c3)).setCell ⟨gb, 1, none⟩ (.int .i64 t) := ⟨_, rfl⟩
        rw [← hW] at HBXc HKPKc ⊢
        clear hW g1 g2 x1 x2
        obtain ⟨c1_, c2_, c3_, c4_⟩ := HBXc.out.cells
        obtain ⟨f1, f2, f3, f4⟩ := HBXc.out.frozen
        have hKcl : Kc.length ≤ N + 40 + 40 * 4096 := by
          rw [HKc.out, List.length_append, ordB_len]
          omega
        have HTC1 := Lib.hid (HT3.out.frame HKPKc.out (fun b hb h => by simp only [Value.ownBlock, Option.some.injEq] at hb; omega))
        have HTC2 := Lib.hid (HT4.out.frame HKPKc.out (fun b hb h => by simp only [Value.ownBlock, Option.some.injEq] at hb; omega))
        have HC0 := Lib.hid (show Wc.cell? ⟨bt, ot + i * 3 + 1, none⟩ = some (.int .i64 (d : Int)) from HTC.out Wc HBXc.out.below 1 _ rfl)
        have HC1 := Lib.hid (show Wc.cell? ⟨g3, kb, none⟩ = some (.int .i64 (lb : Int)) from by rw [HLB.out]; exact nums_at HTC1.out kb (by show kb < 30; exact j4))
        have HC2 := Lib.hid (show Wc.cell? ⟨g4, kb, none⟩ = some (.int .i64 (xb : Int)) from by rw [HXB.out]; exact nums_at HTC2.out kb (by show kb < 30; exact j4))
        clear HT3 HT4 HTC1 HTC2
        have HDs := Lib.hid (show (fun (s9 : Value × List Bool) w9 => Below Wc.heap.size Wc w9 ∧ Sq w9 s9.1 s9.2 ∧ ∀ b, s9.1.ownBlock = some b → (.slice a3 Kc.length c3 : Value).ownBlock = some b ∨ Wc.heap.size ≤ b) (.slice a3 Kc.length c3, Kc) Wc from ⟨Below.refl _ _, HBXc.out.sq, fun b e => .inl e⟩)
        have HSTs := Lib.hid (show ∀ s w w1, (fun (s9 : Value × List Bool) w9 => Below Wc.heap.size Wc w9 ∧ Sq w9 s9.1 s9.2 ∧ ∀ b, s9.1.ownBlock = some b → (.slice a3 Kc.length c3 : Value).ownBlock = some b ∨ Wc.heap.size ≤ b) s w → Below w.heap.size w w1 → (fun (s9 : Value × List Bool) w9 => Below Wc.heap.size Wc w9 ∧ Sq w9 s9.1 s9.2 ∧ ∀ b, s9.1.ownBlock = some b → (.slice a3 Kc.length c3 : Value).ownBlock = some b ∨ Wc.heap.size ≤ b) s w1 from fun s w w1 h hb => ⟨h.1.trans (hb.mono h.1.size), h.2.1.below hb (Nat.le_refl _), h.2.2⟩)
        clear c1_ c2_ c3_ c4_ f1 f2 f3 f4
        refine Qw.wp_region_writes 16 [0, 1, 2, 3, 4, 5, 6, 7, 8, 9, 10, 11, 12, 13, 14] [15] (fun (s9 : Value × List Bool) w9 => Below Wc.heap.size Wc w9 ∧ Sq w9 s9.1 s9.2 ∧ ∀ b, s9.1.ownBlock = some b → (.slice a3 Kc.length c3 : Value).ownBlock = some b ∨ Wc.heap.size ≤ b) (.slice a3 Kc.length c3, Kc) (by kernel_rfl) (by kernel_rfl) (HSTs.out _ _ _ HDs.out ⟨rfl, rfl, rfl, Nat.le_refl _, fun _ _ => rfl⟩) ?_
        refine Qw.Walk.step (A := ?As0) (o := ?os0) HSTs.out (.slice a3 Kc.length c3, Kc) Wc HDs.out ?es0 ?ws0 81 ?ds0 (by simp) ?hs0 ?ns0
        case es0 => simp only [List.getElem?_toArray, List.getElem?_cons_succ, List.getElem?_cons_zero]; exact rfl
        case ws0 => exact rfl
        case ds0 => exact rfl
        case hs0 =>
          intro s9 w9 h9
          have q0 := fun d os => cell_regrown ((h9.1.cell (p := ⟨gb, 0, none⟩) HBXc.out.lt.1).trans HBXc.out.cells.1) d os
          have q1 := fun d os => cell_regrown ((h9.1.cell (p := ⟨gb, 1, none⟩) HBXc.out.lt.1).trans HBXc.out.cells.2.1) d os
          go_big_quiet_op
          exact rfl
        refine Qw.Walk.step (A := ?As1) (o := ?os1) HSTs.out (.slice a3 Kc.length c3, Kc) Wc HDs.out ?es1 ?ws1 82 ?ds1 (by simp) ?hs1 ?ns1
        case es1 => simp only [List.getElem?_toArray, List.getElem?_cons_succ, List.getElem?_cons_zero]; exact rfl
        case ws1 => exact rfl
        case ds1 => exact rfl
        case hs1 =>
          intro s9 w9 h9
          go_big_quiet_op
          exact rfl
        refine Qw.Walk.step (A := ?As2) (o := ?os2) HSTs.out (.slice a3 Kc.length c3, Kc) Wc HDs.out ?es2 ?ws2 83 ?ds2 (by simp) ?hs2 ?ns2
        case es2 => simp only [List.getElem?_toArray, List.getElem?_cons_succ, List.getElem?_cons_zero]; exact rfl
        case ws2 => exact rfl
        case ds2 => exact rfl
        case hs2 =>
          intro s9 w9 h9
          go_big_quiet_op
          exact rfl
        refine Qw.Walk.step (A := ?As3) (o := ?os3) HSTs.out (.slice a3 Kc.length c3, Kc) Wc HDs.out ?es3 ?ws3 84 ?ds3 (by simp) ?hs3 ?ns3
        case es3 => simp only [List.getElem?_toArray, List.getElem?_cons_succ, List.getElem?_cons_zero]; exact rfl
        case ws3 => exact rfl
        case ds3 => exact rfl
        case hs3 =>
          intro s9 w9 h9
          go_big_quiet_op
          exact rfl
        refine Qw.Walk.step (A := ?As4) (o := ?os4) HSTs.out (.slice a3 Kc.length c3, Kc) Wc HDs.out ?es4 ?ws4 85 ?ds4 (by simp) ?hs4 ?ns4
        case es4 => simp only [List.getElem?_toArray, List.getElem?_cons_succ, List.getElem?_cons_zero]; exact rfl
        case ws4 => exact rfl
        case ds4 => exact rfl
        case hs4 =>
          intro s9 w9 h9
          go_big_quiet_op
          exact rfl
        refine Qw.Walk.step (A := ?As5) (o := ?os5) HSTs.out (.slice a3 Kc.length c3, Kc) Wc HDs.out ?es5 ?ws5 86 ?ds5 (by simp) ?hs5 ?ns5
        case es5 => simp only [List.getElem?_toArray, List.getElem?_cons_succ, List.getElem?_cons_zero]; exact rfl
        case ws5 => exact rfl
        case ds5 => exact rfl
        case hs5 =>
          intro s9 w9 h9
          have q0 := fun d os => cell_regrown (cell_of_below h9.1 HC0.out) d os
          go_big_quiet_op
          exact rfl
        refine Qw.Walk.step (A := ?As6) (o := ?os6) HSTs.out (.slice a3 Kc.length c3, Kc) Wc HDs.out ?es6 ?ws6 87 ?ds6 (by simp) ?hs6 ?ns6
        case es6 => simp only [List.getElem?_toArray, List.getElem?_cons_succ, List.getElem?_cons_zero]; exact rfl
        case ws6 => exact rfl
        case ds6 => exact rfl
        case hs6 =>
          intro s9 w9 h9
          go_big_quiet_op
          exact rfl
        refine Qw.Walk.step (A := ?As7) (o := ?os7) HSTs.out (.slice a3 Kc.length c3, Kc) Wc HDs.out ?es7 ?ws7 88 ?ds7 (by simp) ?hs7 ?ns7
        case es7 => simp only [List.getElem?_toArray, List.getElem?_cons_succ, List.getElem?_cons_zero]; exact rfl
        case ws7 => exact rfl
        case ds7 => exact rfl
        case hs7 =>
          intro s9 w9 h9
          go_big_quiet_op
          exact rfl
        refine Qw.Walk.step (A := ?As8) (o := ?os8) HSTs.out (.slice a3 Kc.length c3, Kc) Wc HDs.out ?es8 ?ws8 89 ?ds8 (by simp) ?hs8 ?ns8
        case es8 => simp only [List.getElem?_toArray, List.getElem?_cons_succ, List.getElem?_cons_zero]; exact rfl
        case ws8 => exact rfl
        case ds8 => exact rfl
        case hs8 =>
          intro s9 w9 h9
          go_big_quiet_op
          exact rfl
        refine Qw.Walk.step (A := ?As9) (o := ?os9) HSTs.out (.slice a3 Kc.length c3, Kc) Wc HDs.out ?es9 ?ws9 90 ?ds9 (by simp) ?hs9 ?ns9
        case es9 => simp only [List.getElem?_toArray, List.getElem?_cons_succ, List.getElem?_cons_zero]; exact rfl
        case ws9 => exact rfl
        case ds9 => exact rfl
        case hs9 =>
          intro s9 w9 h9
          have q0 := fun d os => cell_regrown (cell_of_below h9.1 HC1.out) d os
          go_big_quiet_op
          exact rfl
        refine Qw.Walk.step (A := ?As10) (o := ?os10) HSTs.out (.slice a3 Kc.length c3, Kc) Wc HDs.out ?es10 ?ws10 91 ?ds10 (by simp) ?hs10 ?ns10
        case es10 => simp only [List.getElem?_toArray, List.getElem?_cons_succ, List.getElem?_cons_zero]; exact rfl
        case ws10 => exact rfl
        case ds10 => exact rfl
        case hs10 =>
          intro s9 w9 h9
          go_big_quiet_op
          exact rfl
        refine Qw.Walk.step (A := ?As11) (o := ?os11) HSTs.out (.slice a3 Kc.length c3, Kc) Wc HDs.out ?es11 ?ws11 92 ?ds11 (by simp) ?hs11 ?ns11
        case es11 => simp only [List.getElem?_toArray, List.getElem?_cons_succ, List.getElem?_cons_zero]; exact rfl
        case ws11 => exact rfl
        case ds11 => exact rfl
        case hs11 =>
          intro s9 w9 h9
          go_big_quiet_op
          exact rfl
        refine Qw.Walk.step (A := ?As12) (o := ?os12) HSTs.out (.slice a3 Kc.length c3, Kc) Wc HDs.out ?es12 ?ws12 93 ?ds12 (by simp) ?hs12 ?ns12
        case es12 => simp only [List.getElem?_toArray, List.getElem?_cons_succ, List.getElem?_cons_zero]; exact rfl
        case ws12 => exact rfl
        case ds12 => exact rfl
        case hs12 =>
          intro s9 w9 h9
          go_big_quiet_op
          exact rfl
        refine Qw.Walk.step (A := ?As13) (o := ?os13) HSTs.out (.slice a3 Kc.length c3, Kc) Wc HDs.out ?es13 ?ws13 94 ?ds13 (by simp) ?hs13 ?ns13
        case es13 => simp only [List.getElem?_toArray, List.getElem?_cons_succ, List.getElem?_cons_zero]; exact rfl
        case ws13 => exact rfl
        case ds13 => exact rfl
        case hs13 =>
          intro s9 w9 h9
          go_big_quiet_op
          exact rfl
        refine Qw.Walk.step (A := ?As14) (o := ?os14) HSTs.out (.slice a3 Kc.length c3, Kc) Wc HDs.out ?es14 ?ws14 95 ?ds14 (by simp) ?hs14 ?ns14
        case es14 => simp only [List.getElem?_toArray, List.getElem?_cons_succ, List.getElem?_cons_zero]; exact rfl
        case ws14 => exact rfl
        case ds14 => exact rfl
        case hs14 =>
          intro s9 w9 h9
          have q0 := fun d os => cell_regrown (cell_of_below h9.1 HC2.out) d os
          go_big_quiet_op
          exact rfl
        refine Qw.Chain.call (o := ?osc) 75 #[.agg #[.slice a3 Kc.length c3, .int .i64 t], .int .i64 (db : Int), .int .i64 (xb : Int), .bool false] (fun v s => ∃ v2, v = .agg #[v2, .int .i64 t] ∧ s = (v2, Kc ++ ordB false db xb)) ?esc ?wsc ?rsc ?csc ?nsc
        case esc => simp only [List.getElem?_toArray, List.getElem?_cons_succ, List.getElem?_cons_zero]; exact rfl
        case wsc => exact rfl
        case rsc => intro w9; simp [execOp, Act.eval, Act.put, resolve, go_sem]
        case csc =>
          intro w9 h9
          refine (bits_lit _ Kc t w9 (HBXc.out.sq.below h9.1 (Nat.le_refl _)) db xb false (by omega) (by omega) (by omega) _ _ rfl rfl).mono ?_
          rintro e w8 ⟨v8, rfl, ⟨h8, ho8⟩, hb8⟩
          exact ⟨_, (v8, _), rfl, ⟨v8, rfl, rfl⟩, h9.1.trans (hb8.mono h9.1.size), h8, fun b e => by rcases ho8 b e with h | h; exact h9.2.2 b h; exact .inr (Nat.le_trans h9.1.size h)⟩
        rintro v10 s10 ⟨v2_, rfl, rfl⟩
        rintro w2_ ⟨hb2, hs2, ho2⟩
        simp only [List.drop_succ_cons, List.drop_zero, Act.put, List.setIfInBounds_toArray, List.set_cons_succ, List.set_cons_zero]
        simp only at hs2 ho2
        obtain ⟨Kd, hKd⟩ : ∃ z9_, z9_ = Kc ++ ordB false db xb := ⟨_, rfl⟩
        rw [← hKd] at hs2
        have HKd := Lib.hid hKd
        have hst := HBXc.out.store (t' := t) hs2 ho2 hb2
        obtain ⟨a3, c3, rfl, -, -⟩ := hs2.sq.open_
        have h2 := (HBXc.out.ext hb2)
        obtain ⟨g1, g2, -, -⟩ := h2.cells
        obtain ⟨x1, x2, -, -⟩ := h2.frozen
        have HBXd := Lib.hid hst
        have HKPKd := Lib.hid (keep_store hb2 gb (.slice a3 Kd.length c3) (.int .i64 t))
        clear hst h2 hs2 ho2 hb2 hKd HDs HSTs
        go_wp2_with fail
        refine ⟨⟨i + 1, _, Kd, by omega, rfl, HBXd.out, ?_⟩, by simp only [intOf]; omega⟩
        rw [HKd.out, HKc.out, HKb.out, HKa.out, HK.out, HTK.out, HTOK.out, HMA.out, HDB.out]
        simp only [List.append_assoc, ord_false]
        rfl
    · have d1 : decide (i < n) = false := decide_eq_false hlt
      obtain rfl : i = n := by omega
      have hend : K = L ++ (bitsOf last 1 ++ bitsOf 1 2 ++ l.flatMap tokB) := by
        rw [HK.out, HK2.out, HK1.out, List.take_of_length_le (by rw [HN.out]; exact Nat.le_refl _)]
        simp only [List.append_assoc, ord_false]
      have HEND := Lib.hid hend
      clear hend HK
      go_wp2_with fail
      refine (fixed_any _ K t wr HBX.out.sq 256 (by omega) (by omega)).mono ?_
      rintro e w2_ ⟨v2_, rfl, ⟨hs2, ho2⟩, hb2⟩
      have hf := HBX.out.finish (t' := t) hs2 ho2 hb2
      obtain ⟨a3, c3, rfl, -, -⟩ := hs2.sq.open_
      have HF := Lib.hid hf
      have h2 := (HBX.out.ext hb2)
      obtain ⟨-, -, g1, g2⟩ := h2.cells
      obtain ⟨-, -, x1, x2⟩ := h2.frozen
      clear hf h2 hs2 ho2 hb2 c1_ c2_ c3_ c4_ f1 f2 f3 f4
      obtain ⟨len, hlen⟩ : ∃ z, z = (K ++ symB 256).length := ⟨_, rfl⟩
      rw [← hlen] at HF ⊢
      clear hlen
      go_wp2_with fail
      obtain ⟨z1, z2⟩ := HF.out
      refine bodyPost_ret (results_cell_row rfl _ _ gr 60 _ _ _ rfl z1 Try.underlying60 rfl (by kernel_rfl)) rfl ?_
      refine cast ?_ z2
      congr 1
      rw [HEND.out]
      unfold fixB
      simp only [List.append_assoc]
end Go.Proofs.Ytighlefajekloaa.DefEf
