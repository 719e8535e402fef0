/- Package lightwelllaw09: PngTells. Printed by mkpngt.py. -/
import Derived.Test.YtighlefajekloaaPl
import Derived.Test.YtighlefajekloaaPngQ
import Derived.Test.YtighlefajekloaaOp
set_option linter.unusedVariables false
set_option linter.unusedSimpArgs false
namespace Go.Proofs.Ytighlefajekloaa.PngT
open Go.RowKit Go.Sort Base Low NumSl NumAp Bits5 DefS DefO Rec PngM PngB PngD PngG PngH PngK PngO PngL PngQ PngW SameI OpenPx
theorem run_size_px (w : World) : (sizeOf (Try.prog.elem 42)).run Try.prog w = .ok 4 w := by kernel_rfl
theorem und_pxs : Try.prog.underlying 42 = some (.slice (Try.prog.elem 42)) := by kernel_rfl
/-- 'pixels[:n]' -/
theorem slice_pxs {w : World} {ops : Array Oper} {rest : List Oper} {o : Oper} {A : Act} {Q : Exit → Act → World → Prop} (hgd : o.guard = none) (x hi : Operand)
    (ho : o.op = .slice 42 x none (some hi) none) (b off len cap : Nat) (hx : A.eval x = .slice (some ⟨b, off, none⟩) len cap) (n : Nat) (hh : A.eval hi = .int .i64 (n : Int)) (hn : n ≤ cap)
    (h : wpList Try.prog ops Q rest (A.put o.dst (.slice (some ⟨b, off, none⟩) n cap)) w) : wpList Try.prog ops Q (o :: rest) A w := by
  refine wpList_plain hgd fun K hK => ?_
  have hrun := run_slice_h (P := Try.prog) w 42 (some ⟨b, off, none⟩) len cap und_pxs .i64 (n : Int) (by omega) (by omega)
  rw [run_size_px, Int.toNat_natCast] at hrun
  have hA := run_sliceAt_slice (P := Try.prog) w 42 (.slice (some ⟨b, off, none⟩) len cap) none (some (.int .i64 (n : Int))) none und_pxs
  have e : sliced (some (⟨b, off, none⟩ : Addr)) 0 n cap 4 = .slice (some ⟨b, off, none⟩) n cap := by
    unfold sliced
    split <;> simp [Addr.add]
  unfold Oper.wp
  simp only [execOp, ho, hx, hh, Option.map_none, Option.map_some]
  simp [hA, hrun, Result.andThen, e]
  exact hK _ _ h
theorem recs_take {α : Type} {c : Nat} {enc : α → List Value} {w : World} {b off len cap : Nat} {l : List α} (h : Recs c enc w (.slice (some ⟨b, off, none⟩) len cap) l) (n : Nat) (hn : n ≤ len) : Recs c enc w (.slice (some ⟨b, off, none⟩) n cap) (l.take n) := by
  have hl := h.fits
  obtain ⟨a', cap', e, h1, h2, -⟩ := h.shape
  simp only [Value.slice.injEq] at e
  obtain ⟨-, -, rfl⟩ := e
  have hln : (l.take n).length = n := by rw [List.length_take]; omega
  refine ⟨⟨_, cap, by rw [hln], by omega, h2, fun e => by simp at e⟩, fun hne => ?_⟩
  have hne2 : l ≠ [] := fun e => hne (by rw [e]; simp)
  obtain ⟨b2, off2, cap2, e, hlt, hc⟩ := h.cells hne2
  simp only [Value.slice.injEq, Option.some.injEq, Addr.mk.injEq, and_true] at e
  obtain ⟨⟨rfl, rfl⟩, -, rfl⟩ := e
  refine ⟨b, off, cap, by rw [hln], hlt, fun i hi k x hx => ?_⟩
  rw [List.getElem_take] at hx
  exact hc i (by rw [hln] at hi; omega) k x hx
theorem en_below {base : Nat} {w w' : World} {g wd ht lf : Nat} {v : Value} {rws : List Nat} {at_ gz : Nat} {s : Dg} {bg : Bool} {B : List Nat} (h : En base w g wd ht lf v rws at_ gz s bg B) (hb : Below w.heap.size w w') : En base w' g wd ht lf v rws at_ gz s bg B :=
  ⟨(hb.block g (lt_of_heap h.row)).trans h.row, h.rows.below hb (Nat.le_refl _), h.zs.frame (Keeps.of_ext hb (fun _ => False)) (fun _ _ h => h), h.low, h.ng, h.ns, h.rw⟩
/-- where an encoder's blocks lie -/
def EnOut (g gz : Nat) (s : Dg) (v : Value) (N1 N2 : Nat) : Prop := ∀ k, k = g ∨ k = gz ∨ s.own k ∨ v.ownBlock = some k → k < N1 ∨ N2 ≤ k
/-- the law's loop -/
structure TI (w wr : World) (N1 N2 g a b n : Nat) (ord : List Nat) (ps : List Px) (i : Nat) (vw : Value) (ys : List Sl) : Prop where
  bel : Below w.heap.size w wr
  want : Recs 1 encS wr vw ys
  rows : RowsAre wr ys (piecesQ a b ord ps ps.length)
  wlo : ∀ k, vw.ownBlock = some k → N1 ≤ k ∧ k < N2
  rlo : ∀ s ∈ ys, ∀ k, (slV s).ownBlock = some k → N1 ≤ k ∧ k < N2
  sz : N2 ≤ wr.heap.size
  enc : i < n → ∃ v rws at_ gz s, En w.heap.size wr g a b (n - i) v rws at_ gz s (decide (0 < i)) (bytesQ a ord ps i) ∧ chkQ a ord (n - i) rws at_ i = true ∧ EnOut g gz s v N1 N2
  over : i = n → ∃ q1 q2 q4 q5 q6, wr.heap[g]? = some (.cells #[.bool true, q1, q2, .int .i64 0, q4, q5, q6] 49)
theorem put_told (a b n : Nat) (ord : List Nat) (ps : List Px) (i : Nat) (hn : n = a * b) (at_ : Nat) (h : at_ = 0 ↔ newQ a ord i = true) (p : Px) (hp : p = ps.getD i (0, 0, 0, 0)) :
    putL a b (n - i) at_ (decide (0 < i)) (bytesQ a ord ps i) [p.1, p.2.1, p.2.2.1, p.2.2.2] = toldQ a b ord ps i := by
  unfold toldQ
  rw [← hp, ← hn]
  exact putL_same _ _ _ _ _ _ _ _ (inL_same _ _ _ _ _ h)
theorem bytes_next (a : Nat) (ord : List Nat) (ps : List Px) (i : Nat) (at_ : Nat) (h : at_ = 0 ↔ newQ a ord i = true) (p : Px) (hp : p = ps.getD i (0, 0, 0, 0)) : bytesQ a ord ps i ++ inL at_ [p.1, p.2.1, p.2.2.1, p.2.2.2] = bytesQ a ord ps (i + 1) := by
  show _ = bytesQ a ord ps i ++ inQ a ord ps i
  unfold inQ
  rw [← hp, ← inL_same at_ a ord i _ h]
  rfl
/-- one Put -/
theorem put_step {w wr : World} {N1 N2 g a b n : Nat} {ord : List Nat} {ps : List Px} {i : Nat} {vw : Value} {ys : List Sl} (h : TI w wr N1 N2 g a b n ord ps i vw ys) (hn : n = a * b) (ha : a ≤ 1024) (hb : b ≤ 1024) (hn9 : n ≤ 1000) (hi : i < n) (p : Px) (hp : p = ps.getD i (0, 0, 0, 0)) (hpo : p.ok) :
    Calls Try.prog 12 #[.pointer (some ⟨g, 0, none⟩), pxV p] wr fun e w' => ∃ y, e = .returned (.tuple #[y, .int .i64 0]) ∧ Nums .u8 256 w' y (toldQ a b ord ps i) ∧ TI w w' N1 N2 g a b n ord ps (i + 1) vw ys ∧ ∃ q1 q2 q4 q5 q6, w'.heap[g]? = some (.cells #[.bool true, q1, q2, .int .i64 ((n - (i + 1) : Nat) : Int), q4, q5, q6] 49) := by
  obtain ⟨v, rws, at_, gz, s, hen, hck, heo⟩ := h.enc hi
  rw [show n - i = n - (i + 1) + 1 by omega] at hck
  obtain ⟨r0, rs, rfl, hat, hlt, hck2⟩ := chk_next hck
  have hbl := bytesQ_len a ord ps i
  have hni : n - i ≤ a * b := by omega
  refine (put_any w.heap.size wr g a b (n - i) v r0 rs at_ gz s (decide (0 < i)) (bytesQ a ord ps i) hen ha hb (by omega) hni hlt h.bel.size (by omega) p.1 p.2.1 p.2.2.1 p.2.2.2 (Px.lt hpo)).mono ?_
  rintro e w' ⟨y, rfl, hy, hk, hnot, hlst⟩
  rw [put_told a b n ord ps i hn at_ hat p hp] at hy
  rw [bytes_next a ord ps i at_ hat p hp] at hnot
  have hlowD : ∀ k, (k = g ∨ k = gz ∨ s.own k) → w.heap.size ≤ k := fun k hk => by
    rcases hk with rfl | rfl | hk
    · exact hen.low
    · exact hen.zs.low
    · exact (hen.zs.ws.low k hk).1
  have hsep : ∀ k, N1 ≤ k ∧ k < N2 → ¬ (k = g ∨ k = gz ∨ s.own k) := fun k hk e => by
    have := heo k (by rcases e with e | e | e; exact .inl e; exact .inr (.inl e); exact .inr (.inr (.inl e)))
    omega
  have hrows : RowsAre w' ys (piecesQ a b ord ps ps.length) := ⟨h.rows.1, fun q hq => (h.rows.2 q hq).frame hk (fun k e => hsep k (h.rlo q.1 (List.of_mem_zip hq).1 k e))⟩
  have hend : (i + 1 = n → ∃ q1 q2 q4 q5 q6, w'.heap[g]? = some (.cells #[.bool true, q1, q2, .int .i64 0, q4, q5, q6] 49)) := fun e => hlst (by omega)
  have hgo : i + 1 < n → ∃ v rws at_ gz s, En w.heap.size w' g a b (n - (i + 1)) v rws at_ gz s (decide (0 < i + 1)) (bytesQ a ord ps (i + 1)) ∧ chkQ a ord (n - (i + 1)) rws at_ (i + 1) = true ∧ EnOut g gz s v N1 N2 := fun hlt1 => by
    obtain ⟨v', s', hen', hs', hv'⟩ := hnot (by omega)
    rw [show n - i - 1 = n - (i + 1) by omega] at hen'
    rw [show decide (0 < i + 1) = true from decide_eq_true (Nat.succ_pos i)]
    refine ⟨v', _, _, gz, s', hen', hck2, fun k e => ?_⟩
    rcases e with e | e | e | e
    · exact heo k (.inl e)
    · exact heo k (.inr (.inl e))
    · rcases hs' k e with h1 | h1
      · exact heo k (.inr (.inr (.inl h1)))
      · exact .inr (Nat.le_trans h.sz h1)
    · exact heo k (.inr (.inr (.inr (hv' k e))))
  refine ⟨y, rfl, hy.nums, ⟨h.bel.trans (hk.below _ h.bel.size hlowD), h.want.frame hk (fun k e => hsep k (h.wlo k e)), hrows, h.wlo, h.rlo, Nat.le_trans h.sz hk.size, hgo, hend⟩, ?_⟩
  rcases Nat.lt_or_ge (i + 1) n with h1 | h1
  · obtain ⟨v', rws', at', gz', s', hen', -, -⟩ := hgo h1
    exact ⟨_, _, _, _, _, hen'.row⟩
  · obtain ⟨q1, q2, q4, q5, q6, hr⟩ := hend (by omega)
    rw [show n - (i + 1) = 0 by omega]
    exact ⟨q1, q2, q4, q5, q6, hr⟩
theorem piecesQ_at (a b : Nat) (ord : List Nat) (ps : List Px) (k i : Nat) (hi : i < (piecesQ a b ord ps k).length) : (piecesQ a b ord ps k)[i]'hi = toldQ a b ord ps i := by
  have h2 : i < k := by unfold piecesQ at hi; simpa using hi
  have h3 : (piecesQ a b ord ps k)[i]? = some (toldQ a b ord ps i) := by unfold piecesQ; rw [List.getElem?_map, List.getElem?_range h2]; rfl
  rw [List.getElem?_eq_getElem hi] at h3
  exact Option.some.inj h3
set_option maxRecDepth 100000 in
set_option maxHeartbeats 4000000 in
theorem tells_in (w : World) (a b : Nat) (ha1 : 1 ≤ a) (ha : a ≤ 12) (hb1 : 1 ≤ b) (hb : b ≤ 12) (vp : Value) (ps0 : List Px) (hp0 : Recs 4 encP w vp ps0) (hpo0 : ∀ p ∈ ps0, p.ok) :
    Calls Try.prog 6 #[.int .i64 (a : Int), .int .i64 (b : Int), vp] w fun e w' => e = .returned (.bool true) ∧ Below w.heap.size w w' := by
  obtain ⟨n, hn⟩ : ∃ n, n = a * b := ⟨_, rfl⟩
  have hn9 : n ≤ 12 * 12 := by rw [hn]; exact Nat.mul_le_mul ha hb
  have hn1 : 1 ≤ n := by rw [hn]; exact Nat.mul_le_mul ha1 hb1
  have en : IntKind.i64.wrap ((a : Int) * (b : Int)) = (n : Int) := by rw [← Int.natCast_mul, ← hn, IntKind.wrap_i64]; omega
  have HN := Lib.hid hn
  obtain ⟨ord, hord⟩ : ∃ o, o = orderQ a b 7 := ⟨_, rfl⟩
  have HCK := Lib.hid (show chkQ a ord n (widthsL a b) 0 0 = true ∧ ord.length = n by rw [hord, hn]; exact chk_all a b ha1 ha hb1 hb)
  have HORD := Lib.hid hord
  obtain ⟨ap, cp, rfl, -, -⟩ := hp0.open_
  obtain ⟨np0, hnp0⟩ : ∃ n, n = ps0.length := ⟨_, rfl⟩
  have HP0 := Lib.hid hp0
  rw [← hnp0] at HP0 ⊢
  have HNP0 := Lib.hid hnp0
  have HPO0 := Lib.hid hpo0
  have d1 : decide ((12 : Int) < (a : Int)) = false := decide_eq_false (by omega)
  have d1' : ¬ 12 < a := by omega
  have d2 : decide ((12 : Int) < (b : Int)) = false := decide_eq_false (by omega)
  have d2' : ¬ 12 < b := by omega
  have d3 : decide ((1 : Int) ≤ (a : Int)) = true := decide_eq_true (by omega)
  have d4 : decide ((1 : Int) ≤ (b : Int)) = true := decide_eq_true (by omega)
  have HNEW := Lib.hid (new_png w.heap.size a b ha1 (by omega) hb1 (by omega) w (Nat.le_refl _))
  clear hn hord hp0 hnp0 hpo0
  go_enter Try.func6, Try.ntmps6
  go_wp2_with fail
  refine HNEW.out.mono ?_
  rintro e w1 ⟨g, v, gz, s, rfl, hen, hb1', hfr⟩
  have HEN := Lib.hid hen
  have HB1 := Lib.hid hb1'
  clear hen hb1' hfr HNEW
  go_upto_if 62 with (fail)
  go_cut [2] (fun v2 wc => (∃ ps : List Px, Recs 4 encP w v2 ps ∧ (∀ p ∈ ps, p.ok) ∧ ps.length ≤ n) ∧ wc = w1)
  case first =>
    by_cases hlt : n < np0
    · have d5 : decide ((n : Int) < (np0 : Int)) = true := decide_eq_true (by omega)
      have d5' : decide (n < np0) = true := decide_eq_true hlt
      obtain ⟨bp, op, cp', e, -, -⟩ := HP0.out.cells (by intro e; have := HNP0.out; rw [e] at this; simp at this; omega)
      simp only [Value.slice.injEq] at e
      obtain ⟨rfl, -, -⟩ := e
      have hle : n ≤ cp := by
        obtain ⟨_, c2, e2, h1, -⟩ := HP0.out.shape
        simp only [Value.slice.injEq] at e2
        obtain ⟨-, -, rfl⟩ := e2
        have := HNP0.out
        omega
      have hle2 : n ≤ np0 := by omega
      have HPT := Lib.hid (recs_take HP0.out n hle2)
      go_wp2_with (refine slice_pxs rfl (.tmp 63) (.tmp 64) rfl bp op np0 cp rfl n rfl hle ?_)
      go_meet
      case rel => exact ⟨⟨ps0.take n, HPT.out, fun p hp => HPO0.out p (List.mem_of_mem_take hp), by rw [List.length_take]; omega⟩, rfl⟩
    · have d5 : decide ((n : Int) < (np0 : Int)) = false := decide_eq_false (by omega)
      have d5' : decide (n < np0) = false := decide_eq_false hlt
      go_wp2_with fail
      go_meet
      case rel => exact ⟨⟨ps0, HP0.out, HPO0.out, by rw [← HNP0.out]; omega⟩, rfl⟩
  case rest =>
    obtain ⟨⟨ps, hp, hpo, hpl⟩, hwc⟩ := hcut
    generalize wc = wz at *
    subst hwc
    obtain ⟨aq, cq, rfl, -, -⟩ := hp.open_
    obtain ⟨np, hnp⟩ : ∃ n, n = ps.length := ⟨_, rfl⟩
    have HP := Lib.hid hp
    rw [← hnp] at HP hpl ⊢
    have HNP := Lib.hid hnp
    have HPO := Lib.hid hpo
    have HPI := Lib.hid (pieces_any wz a b ha1 (by omega) hb1 (by omega) (by rw [← HN.out]; omega) (by rw [← HORD.out, ← HN.out]; exact HCK.out.2) _ ps (HP.out.below HB1.out (Nat.le_refl _)) HPO.out (by rw [← HNP.out, ← HN.out]; exact hpl))
    clear hp hpo hnp HP0 HPO0 HNP0
    go_wp2_with fail
    refine HPI.out.mono ?_
    rintro e w2 ⟨vw, ys, rfl, hrw, hry, hb2, hvlo, hrlo⟩
    rw [← HORD.out] at hry
    have hyl : ys.length = np := by rw [hry.1]; unfold piecesQ; simp [HNP.out]
    obtain ⟨aw, cw, rfl, -, -⟩ := hrw.open_
    have hvv : ∀ k, v.ownBlock = some k → k < wz.heap.size := fun k e => by
      have hne : widthsL a b ≠ [] := fun e => by
        have h := HCK.out.1
        rw [e, show n = n - 1 + 1 by omega] at h
        simp [chkQ] at h
      obtain ⟨b5, o5, c5, e5, hlt5, -⟩ := HEN.out.rows.cells hne
      rw [e5] at e
      simp only [Value.ownBlock, Option.some.injEq] at e
      omega
    have HTI := Lib.hid (show TI w w2 wz.heap.size w2.heap.size g a b n ord ps 0 (.slice aw ys.length cw) ys from
      ⟨HB1.out.trans (hb2.mono HB1.out.size), hrw, hry, hvlo, fun s hs k e => ⟨hrlo s hs k e, hry.lt s hs k e⟩, Nat.le_refl _, fun _ => ⟨v, widthsL a b, 0, gz, s, by
          have h := en_below HEN.out hb2
          rw [← HN.out] at h
          exact h, HCK.out.1, fun k e => .inl (by
          rcases e with e | e | e | e
          · rw [e]; exact lt_of_heap HEN.out.row
          · rw [e]; exact lt_of_heap HEN.out.zs.row
          · exact (HEN.out.zs.ws.low k e).2
          · exact hvv k e)⟩, fun e => by omega⟩)
    rw [hyl] at HTI ⊢
    generalize wz.heap.size = N1 at HTI
    generalize w2.heap.size = N2 at HTI
    clear hrw hry hb2 hvlo hrlo hvv HEN HPI HB1
    go_wp2_with fail
    go_loopg [11] np (fun r v11 wr => ∃ i : Nat, i + r = np ∧ v11 = .int .i64 (i : Int) ∧ Hid (TI w wr N1 N2 g a b n ord ps i (.slice aw np cw) ys))
    case atStart => exact ⟨0, by omega, rfl, HTI⟩
    case round =>
      obtain ⟨i, hir, rfl, HI⟩ := hrel
      clear HTI
      by_cases hin : i < np
      · have d6 : decide (i < np) = true := decide_eq_true hin
        have d6' : decide ((i : Int) < (np : Int)) = true := decide_eq_true (by omega)
        obtain ⟨p, hpx⟩ : ∃ p, p = ps.getD i (0, 0, 0, 0) := ⟨_, rfl⟩
        have hipl : i < ps.length := by rw [← HNP.out]; exact hin
        have hpe : ps[i]'hipl = p := by rw [hpx, List.getD_eq_getElem?_getD, List.getElem?_eq_getElem hipl]; rfl
        have HPL := Lib.hid (show p.ok from by rw [← hpe]; exact HPO.out _ (List.getElem_mem hipl))
        have HPX := Lib.hid hpx
        obtain ⟨bp, op, cp', ep, -, hcp⟩ := (HP.out.below HI.out.bel (Nat.le_refl _)).cells (by intro e; rw [e] at hipl; simp at hipl)
        simp only [Value.slice.injEq] at ep
        obtain ⟨rfl, -, -⟩ := ep
        have hcpi := hcp i hipl
        rw [hpe] at hcpi
        have y0 : wr.cell? ⟨bp, op + i * 4, none⟩ = some (.int .u8 (p.1 : Int)) := hcpi 0 _ rfl
        have y1 : wr.cell? ⟨bp, op + i * 4 + 1, none⟩ = some (.int .u8 (p.2.1 : Int)) := hcpi 1 _ rfl
        have y2 : wr.cell? ⟨bp, op + i * 4 + 2, none⟩ = some (.int .u8 (p.2.2.1 : Int)) := hcpi 2 _ rfl
        have y3 : wr.cell? ⟨bp, op + i * 4 + 3, none⟩ = some (.int .u8 (p.2.2.2 : Int)) := hcpi 3 _ rfl
        have HPS := Lib.hid (put_step HI.out HN.out (by omega) (by omega) (by omega) (by omega) p hpx HPL.out)
        unfold pxV at HPS
        clear hpx hipl hpe hcp hcpi
        go_wp2_with fail
        refine HPS.out.mono ?_
        rintro e w3 ⟨y, rfl, hy, hti, q1, q2, q4, q5, q6, hrow⟩
        have hiy : i < ys.length := by rw [hyl]; exact hin
        obtain ⟨bw, ow, cw', ew, -, hcw⟩ := hti.want.cells (by intro e; rw [e] at hiy; simp at hiy)
        simp only [Value.slice.injEq] at ew
        obtain ⟨rfl, -, -⟩ := ew
        have hcwi := hcw i hiy 0 (slV (ys[i]'hiy)) rfl
        obtain ⟨u0, hu0⟩ : ∃ u, u = slV (ys[i]'hiy) := ⟨_, rfl⟩
        rw [← hu0, Nat.mul_one, Nat.add_zero] at hcwi
        have hri := (hti.rows.at i hiy).1
        rw [piecesQ_at, ← hu0] at hri
        have hsb := sameBytes_any y u0 _ _ w3 hy hri
        rw [decide_eq_true rfl] at hsb
        have HSB := Lib.hid hsb
        have HTN := Lib.hid hti
        have HRW := Lib.hid hrow
        obtain ⟨m1, hm1⟩ : ∃ m, m = n - 1 := ⟨_, rfl⟩
        obtain ⟨m2, hm2⟩ : ∃ m, m = n - (i + 1) := ⟨_, rfl⟩
        have e6 : IntKind.i64.wrap ((n : Int) - 1) = (m1 : Int) := by rw [IntKind.wrap_i64]; omega
        have e7 : IntKind.i64.wrap ((m1 : Int) - (i : Int)) = (m2 : Int) := by rw [IntKind.wrap_i64]; omega
        have e8 : IntKind.i64.wrap ((i : Int) + 1) = ((i + 1 : Nat) : Int) := by rw [IntKind.wrap_i64]; omega
        rw [← hm2] at HRW
        clear hy hti hrow hcw hu0 hri hsb y0 y1 y2 y3 HPS HI hm1 hm2
        go_wp2_with fail
        refine HSB.out.mono ?_
        rintro e w4 ⟨rfl, rfl⟩
        go_wp2_with fail
        refine (left_any _ g m2 _ _ _ _ _ HRW.out).mono ?_
        rintro e w4 ⟨rfl, rfl⟩
        go_wp2_with fail
        go_roundg (gk - 1)
        case measure => omega
        case rel => exact ⟨i + 1, by omega, rfl, HTN⟩
      · have d6 : decide (i < np) = false := decide_eq_false hin
        have d6' : decide ((i : Int) < (np : Int)) = false := decide_eq_false (by omega)
        obtain rfl : i = np := by omega
        by_cases hlast : i = n
        · have q7 : ((i : Int) == (n : Int)) = true := by simp; omega
          obtain ⟨q1, q2, q4, q5, q6, hrow⟩ := HI.out.over hlast
          have HRW := Lib.hid hrow
          clear hrow hlast
          go_wp2_with fail
          refine (put_over _ g q1 q2 q4 q5 q6 HRW.out 0 0 0 0).mono ?_
          rintro e w3 ⟨rfl, hb3⟩
          have HB3 := Lib.hid (HI.out.bel.trans (hb3.mono HI.out.bel.size))
          clear hb3 HI HRW
          go_wp2_with fail
          refine (order_any a b ha1 (by omega) hb1 (by omega) _).mono ?_
          rintro e w5 ⟨v5, rfl, ho5, hb5⟩
          have HO5 := Lib.hid ho5
          have HB5 := Lib.hid (HB3.out.trans (hb5.mono HB3.out.size))
          clear ho5 hb5 HB3
          go_wp2_with fail
          refine (rorder_any a b ha1 (by omega) hb1 (by omega) _).mono ?_
          rintro e w6 ⟨v6, rfl, ho6, hb6⟩
          have hsi := sameInts_any 1048576 v5 v6 _ _ w6 (HO5.out.nums.below hb6 (Nat.le_refl _)) ho6.nums (by omega)
          rw [order_same a b ha1 ha hb1 hb, decide_eq_true rfl] at hsi
          have HSI := Lib.hid hsi
          have HB6 := Lib.hid (HB5.out.trans (hb6.mono HB5.out.size))
          clear ho6 hb6 hsi HB5
          go_wp2_with fail
          refine HSI.out.mono ?_
          rintro e w7 ⟨rfl, hb7⟩
          have HB7 := Lib.hid (HB6.out.trans (hb7.mono HB6.out.size))
          clear hb7 HB6
          go_wp2_with fail
          refine (awake_any _).mono ?_
          rintro e w8 ⟨rfl, hb8⟩
          go_wp2_with fail
          go_ret
          exact ⟨rfl, HB7.out.trans (hb8.mono HB7.out.size)⟩
        · have q7 : ((i : Int) == (n : Int)) = false := by simp; omega
          have HB3 := Lib.hid HI.out.bel
          clear HI
          go_wp2_with fail
          refine (order_any a b ha1 (by omega) hb1 (by omega) _).mono ?_
          rintro e w5 ⟨v5, rfl, ho5, hb5⟩
          have HO5 := Lib.hid ho5
          have HB5 := Lib.hid (HB3.out.trans (hb5.mono HB3.out.size))
          clear ho5 hb5 HB3
          go_wp2_with fail
          refine (rorder_any a b ha1 (by omega) hb1 (by omega) _).mono ?_
          rintro e w6 ⟨v6, rfl, ho6, hb6⟩
          have hsi := sameInts_any 1048576 v5 v6 _ _ w6 (HO5.out.nums.below hb6 (Nat.le_refl _)) ho6.nums (by omega)
          rw [order_same a b ha1 ha hb1 hb, decide_eq_true rfl] at hsi
          have HSI := Lib.hid hsi
          have HB6 := Lib.hid (HB5.out.trans (hb6.mono HB5.out.size))
          clear ho6 hb6 hsi HB5
          go_wp2_with fail
          refine HSI.out.mono ?_
          rintro e w7 ⟨rfl, hb7⟩
          have HB7 := Lib.hid (HB6.out.trans (hb7.mono HB6.out.size))
          clear hb7 HB6
          go_wp2_with fail
          refine (awake_any _).mono ?_
          rintro e w8 ⟨rfl, hb8⟩
          go_wp2_with fail
          go_ret
          exact ⟨rfl, HB7.out.trans (hb8.mono HB7.out.size)⟩
set_option maxRecDepth 100000 in
set_option maxHeartbeats 4000000 in
theorem tells_any (a b : Int) (v : Value) (w : World) (hv : IsPxs w v) : Calls Try.prog 6 #[.int .i64 a, .int .i64 b, v] w fun e w' => e = .returned (.bool true) ∧ Below w.heap.size w w' := by
  obtain ⟨ps, hpo, hp⟩ := hv
  by_cases hA : 12 < a
  · have d1 : decide (12 < a) = true := decide_eq_true hA
    obtain ⟨ap, cp, rfl, -, -⟩ := hp.open_
    clear hp hpo
    go_enter Try.func6, Try.ntmps6
    go_wp2_with fail
    refine (awake_any _).mono ?_
    rintro e w8 ⟨rfl, hb8⟩
    go_wp2_with fail
    go_ret
    exact ⟨rfl, hb8⟩
  · have d1 : decide (12 < a) = false := decide_eq_false hA
    by_cases hB : 12 < b
    · have d2 : decide (12 < b) = true := decide_eq_true hB
      obtain ⟨ap, cp, rfl, -, -⟩ := hp.open_
      clear hp hpo
      go_enter Try.func6, Try.ntmps6
      go_wp2_with fail
      refine (awake_any _).mono ?_
      rintro e w8 ⟨rfl, hb8⟩
      go_wp2_with fail
      go_ret
      exact ⟨rfl, hb8⟩
    · have d2 : decide (12 < b) = false := decide_eq_false hB
      by_cases hC : 1 ≤ a ∧ 1 ≤ b
      · obtain ⟨m, rfl⟩ : ∃ m : Nat, a = (m : Int) := ⟨a.toNat, by omega⟩
        obtain ⟨k, rfl⟩ : ∃ k : Nat, b = (k : Int) := ⟨b.toNat, by omega⟩
        exact tells_in w m k (by omega) (by omega) (by omega) (by omega) v ps hp hpo
      · have HNN := Lib.hid (new_no a b (fun h => hC ⟨h.1, h.2.2.1⟩) w)
        have HON := Lib.hid (order_no a b (fun h => hC ⟨h.1, h.2.2.1⟩) w)
        obtain ⟨ap, cp, rfl, -, -⟩ := hp.open_
        clear hp hpo
        by_cases hD : 1 ≤ a
        · have d3 : decide (1 ≤ a) = true := decide_eq_true hD
          have d4 : decide (1 ≤ b) = false := decide_eq_false (fun h => hC ⟨hD, h⟩)
          clear hC
          go_enter Try.func6, Try.ntmps6
          go_wp2_with fail
          refine HNN.out.mono ?_
          rintro e w1 ⟨rfl, rfl⟩
          go_wp2_with fail
          refine HON.out.mono ?_
          rintro e w1 ⟨rfl, rfl⟩
          go_wp2_with fail
          refine (awake_any _).mono ?_
          rintro e w8 ⟨rfl, hb8⟩
          go_wp2_with fail
          go_ret
          exact ⟨rfl, hb8⟩
        · have d3 : decide (1 ≤ a) = false := decide_eq_false hD
          clear hC
          go_enter Try.func6, Try.ntmps6
          go_wp2_with fail
          refine HNN.out.mono ?_
          rintro e w1 ⟨rfl, rfl⟩
          go_wp2_with fail
          refine HON.out.mono ?_
          rintro e w1 ⟨rfl, rfl⟩
          go_wp2_with fail
          refine (awake_any _).mono ?_
          rintro e w8 ⟨rfl, hb8⟩
          go_wp2_with fail
          go_ret
          exact ⟨rfl, hb8⟩
end Go.Proofs.Ytighlefajekloaa.PngT
