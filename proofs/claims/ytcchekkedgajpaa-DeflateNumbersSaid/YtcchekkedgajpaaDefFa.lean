/- Package deflate: prune, the one time that it looks at the places of a text that is no longer than a window and a block: nothing is given up. -/
import Derived.Test.YtcchekkedgajpaaDefDb
import Derived.Maps.RangeRun
set_option linter.unusedVariables false
set_option linter.unusedSimpArgs false
namespace Go.Proofs.Ytcchekkedgajpaa.DefFa
open Go.RowKit Go.Sort BitsM Base Low BitsW BitsX BitsS MapA DefM DefN DefO DefS DefT DefR DefU DefV DefW DefX DefY DefZ DefBa DefBb DefBc DefCa DefCb DefDa DefDb Qb Qt Qp Qy Rec
open Go.ChangeMaps (setBlock heap_setBlock_same heap_setBlock_other)
def seenAt (w : World) (r : Nat) : Array Nat := match w.heap[r]? with
  | some (.mapIter _ _ s _) => s
  | _ => #[]
section
variable {P : Program} {w : World} {ops : Array Oper} {rest : List Oper} {o : Oper} {A : Act} {Q : Exit → Act → World → Prop}
theorem wpList_range (hgd : o.guard = none) (T k e : TypeId) (x : Operand) (ho : o.op = .range T x) (hT : P.underlying T = some (.map k e)) (g : Nat) (hx : A.eval x = .map (some g)) (es : Array MapEntry) (clock : Nat) (hg : w.heap[g]? = some (.map es clock))
    (h : wpList P ops Q rest (A.put o.dst (.pointer (some ⟨w.heap.size, 0, none⟩))) (w.alloc (.mapIter (some g) clock #[] clock))) : wpList P ops Q (o :: rest) A w := by
  refine wpList_plain hgd fun K hK => ?_
  have hrun := run_range_map (P := P) w T k e g es clock hT hg
  unfold Oper.wp
  simp only [execOp, ho, hx]
  simp [hrun, Result.andThen]
  exact hK _ _ h
theorem wpList_next0 (hgd : o.guard = none) (x : Operand) (ho : o.op = .next x false) (r g since c0 : Nat) (seen : Array Nat) (hx : A.eval x = .pointer (some ⟨r, 0, none⟩)) (es : Array MapEntry) (clock : Nat) (hr : w.heap[r]? = some (.mapIter (some g) since seen c0)) (hg : w.heap[g]? = some (.map es clock))
    (hold : ∀ x ∈ es.toList, x.born < since) (hsc : since ≤ c0) (hz : (leftOf es seen).size = 0) (h0 : wpList P ops Q rest (A.put o.dst (.tuple #[.bool false])) w) : wpList P ops Q (o :: rest) A w := by
  refine wpList_plain hgd fun K hK => ?_
  unfold Oper.wp
  simp only [execOp, ho, hx]
  rcases run_next_at (P := P) w o.type r g since c0 seen es clock hr hg hold hsc with ⟨h2, hrun⟩ | ⟨e, he, w1, hw1, hrun⟩
  · simp [hrun, Result.andThen]
    exact hK _ _ h0
  · rw [Array.eq_empty_of_size_eq_zero hz] at he
    simp at he
theorem wpList_next1 (hgd : o.guard = none) (x : Operand) (ho : o.op = .next x false) (r g since c0 : Nat) (seen : Array Nat) (hx : A.eval x = .pointer (some ⟨r, 0, none⟩)) (es : Array MapEntry) (clock : Nat) (hr : w.heap[r]? = some (.mapIter (some g) since seen c0)) (hg : w.heap[g]? = some (.map es clock))
    (hold : ∀ x ∈ es.toList, x.born < since) (hsc : since ≤ c0) (hz : ¬ (leftOf es seen).size = 0)
    (h1 : ∀ e ∈ (leftOf es seen).toList, ∀ w1 : World, (w1 = w ∨ w1 = w.drew) → wpList P ops Q rest (A.put o.dst (.tuple #[.bool true, e.key, e.val])) (setBlock w1 r (.mapIter (some g) since (seen.push e.born) clock))) : wpList P ops Q (o :: rest) A w := by
  refine wpList_plain hgd fun K hK => ?_
  unfold Oper.wp
  simp only [execOp, ho, hx]
  rcases run_next_at (P := P) w o.type r g since c0 seen es clock hr hg hold hsc with ⟨h2, hrun⟩ | ⟨e, he, w1, hw1, hrun⟩
  · exact absurd h2 hz
  · simp [hrun, Result.andThen]
    exact hK _ _ (h1 e he w1 hw1)
theorem wpList_entry (hgd : o.guard = none) (x : Operand) (ho : o.op = .entry x) (r g since : Nat) (seen : Array Nat) (hx : A.eval x = .pointer (some ⟨r, 0, none⟩)) (es : Array MapEntry) (clock : Nat) (e : MapEntry) (hr : w.heap[r]? = some (.mapIter (some g) since (seen.push e.born) clock)) (hg : w.heap[g]? = some (.map es clock))
    (he : e ∈ es.toList) (hn : (es.toList.map (·.born)).Nodup) (h : wpList P ops Q rest (A.put o.dst (.tuple #[e.key, e.val])) w) : wpList P ops Q (o :: rest) A w := by
  refine wpList_plain hgd fun K hK => ?_
  have hrun := run_entry_at (P := P) w r g since seen es clock e hr hg he hn
  unfold Oper.wp
  simp only [execOp, ho, hx]
  simp [hrun, Result.andThen]
  exact hK _ _ h
end
theorem cell_of_below2 {w w' : World} (h : Below w.heap.size w w') {b j : Nat} {v : Value} (hc : w.cell? ⟨b, j, none⟩ = some v) : w'.cell? ⟨b, j, none⟩ = some v := by
  have hb := block_lt_of_cell hc
  exact (h.cell (p := ⟨b, j, none⟩) hb).trans hc
theorem keeps_block (w w1 : World) (hw : w1 = w ∨ w1 = w.drew) (r : Nat) (o : Obj) : Keeps (fun k => k = r) w (setBlock w1 r o) := by
  have h : Keeps (fun k => k = r) w1 (setBlock w1 r o) := keeps_setBlock w1 r o
  rcases hw with rfl | rfl
  · exact h
  · exact ⟨h.os, h.tape, h.output, h.size, h.block⟩
set_option maxRecDepth 100000 in
set_option maxHeartbeats 2000000 in
theorem prune_far (base : Nat) (w : World) (s : Dg) (L : List Bool) (T : Nat) (B : List Nat) (N : Nat) (h : Ds base w s false L T B 32768 N 0) :
    Calls Try.prog 36 #[.pointer (some ⟨s.gW, 0, none⟩)] w fun e w' => e = .returned (.tuple #[]) ∧ ∃ s', Ds base w' s' false L T B 32768 N 32768 ∧ Ev w s w' s' := by
  obtain ⟨V, R, hrel, hdw⟩ := h
  obtain ⟨C0, C1, C2, C3, C4, C5, C6, C7, C8⟩ := hdw.row.cells
  have f5 := fun d os => cell_regrown C5 d os
  have f8 := fun d os => cell_regrown C8 d os
  have HD := Lib.hid hdw
  have HREL := Lib.hid hrel
  clear hdw hrel C0 C1 C2 C3 C4 C6 C7
  have e1 : IntKind.i64.wrap (32768 - (0 : Int)) = 32768 := by decide
  go_enter Try.func36, Try.ntmps36
  go_upto_region 0 with (fail)
  refine wp_region_quiet_below (by kernel_rfl) (by kernel_rfl) ?_
  repeat (go_big_quiet_step (fail))
  refine wpQuiet_nil ?_
  first | (rintro _ ⟨⟨dq, odq⟩, rfl⟩) | (rintro ⟨dq, odq⟩)
  have hW1 := below_regrown w dq odq
  obtain ⟨W1, eW1⟩ : ∃ ww, ww = grow (redrawn w dq) odq := ⟨_, rfl⟩
  rw [← eW1] at hW1 ⊢
  have HD1 := Lib.hid (HD.out.ext hW1)
  have HB1 := Lib.hid hW1
  clear eW1 hW1 f5 f8 C5 C8 e1
  have hrow := HD1.out.row.blk
  have x5 := cell_of_row _ _ 5 _ _ _ hrow
  have x8 := cell_of_row _ _ 8 _ _ _ hrow
  have x7 := cell_of_row _ _ 7 _ _ _ hrow
  have y8 := frozen_of_row _ _ 8 _ _ hrow
  simp only [List.getElem?_toArray, List.getElem?_cons_succ, List.getElem?_cons_zero] at x5 x8 x7
  go_upto_region 2 with (fail)
  have hk2 := (Keeps.refl (fun k => k = s.gW) W1).setCell s.gW 8 (.int .i64 32768) (.inl rfl)
  have hr2 := heap_setCell_same W1 s.gW 8 _ _ (.int .i64 32768) hrow
  obtain ⟨W2, hW2⟩ : ∃ ww, ww = W1.setCell ⟨s.gW, 8, none⟩ (.int .i64 32768) := ⟨_, rfl⟩
  rw [← hW2] at hk2 hr2 ⊢
  have HD2 := Lib.hid (show Dw base W2 s false V R T B 32768 N 32768 from ⟨⟨hr2⟩, HD1.out.k.frame hk2 (fun x q hx hq e => by subst e; exact hx (HD1.out.k.apart x .w _ hq rfl))⟩)
  have HK2 := Lib.hid hk2
  clear hW2 hk2 hr2 hrow x5 x8 x7 y8
  obtain ⟨es, clock, hes, hst, hky, hnn, hfu⟩ := HD2.out.k.map_.is_
  have HES := Lib.hid hes
  obtain ⟨hst1, hst2, -⟩ := hst
  have HOLD := Lib.hid (show ∀ x ∈ es.toList, x.born < clock from hst1)
  have HNOD := Lib.hid hst2
  have HKY := Lib.hid hky
  have HFU := Lib.hid hfu
  have x7 := HD2.out.row.cells.2.2.2.2.2.2.2.1
  clear hes hst1 hst2 hky hnn hfu
  go_upto_region 3 with (with_reducible refine wpList_range rfl 43 103 48 (.tmp 25) rfl map_type s.gM rfl es clock HES.out ?_)
  simp only [Act.put, List.setIfInBounds_toArray, List.set_cons_succ, List.set_cons_zero]
  have hit := Base.lt_of_heap HES.out
  have hk3 := ext_alloc W2 (.mapIter (some s.gM) clock #[] clock)
  have hi3 : (W2.alloc (.mapIter (some s.gM) clock #[] clock)).heap[W2.heap.size]? = some (.mapIter (some s.gM) clock #[] clock) := Go.heap_alloc_new _ _
  obtain ⟨W3, hW3⟩ : ∃ ww, ww = W2.alloc (.mapIter (some s.gM) clock #[] clock) := ⟨_, rfl⟩
  rw [← hW3] at hk3 hi3 ⊢
  obtain ⟨r, hr⟩ : ∃ r, r = W2.heap.size := ⟨_, rfl⟩
  rw [← hr] at hi3 ⊢
  have HD3 := Lib.hid (HD2.out.ext hk3)
  have HES3 := Lib.hid ((hk3.block _ hit).trans HES.out)
  have HI3 := Lib.hid hi3
  have HB3 := Lib.hid hk3
  have hrn : ∀ x b, s.blk x = some b → ¬ b = r := fun x b hb e => by have := (HD2.out.low x b hb).2; omega
  have HRN := Lib.hid hrn
  have hr2 : W2.heap.size ≤ r := by rw [hr]; exact Nat.le_refl _
  have hwr : w.heap.size ≤ r := by rw [hr]; exact Nat.le_trans HB1.out.size HK2.out.size
  clear hW3 hr hk3 hi3 x7 hit hrn
  go_loopw [] (fun wr => ∃ (seen : Array Nat) (c0 : Nat), wr.heap[r]? = some (.mapIter (some s.gM) clock seen c0) ∧ clock ≤ c0 ∧ Keeps (fun k => k = r) W3 wr) (fun wr => (leftOf es (seenAt wr r)).size)
  case atStart => exact ⟨#[], clock, HI3.out, Nat.le_refl _, Keeps.refl _ _⟩
  case round =>
    obtain ⟨seen, c0, hit, hc0, hkp⟩ := hrel
    have HIT := Lib.hid hit
    have HKP := Lib.hid hkp
    have HESr := Lib.hid ((hkp.block s.gM (Base.lt_of_heap HES3.out) (fun e => HRN.out .m s.gM rfl e)).trans HES3.out)
    have HDr := Lib.hid (HD3.out.frame hkp (fun x b hb e => HRN.out x b hb e))
    have HSE := Lib.hid (show seenAt wr r = seen from by unfold seenAt; rw [hit])
    clear hit hkp
    by_cases hz : (leftOf es seen).size = 0
    · go_wp2_with (with_reducible refine wpList_next0 rfl (.tmp 26) rfl r s.gM clock c0 seen rfl es clock HIT.out HESr.out HOLD.out hc0 hz ?_)
      refine bodyPost_end (results_none rfl _ _ _) rfl ?_
      have hkk : Keeps s.own w wr := (Keeps.of_ext HB1.out s.own).trans ((HK2.out.mono (fun k e => (show s.own k from ⟨.w, by rw [e]; rfl⟩))).trans ((Keeps.of_ext HB3.out s.own).trans (HKP.out) (fun k e => .inr (by rw [e]; exact hr2))) (fun k e => .inl e)) (fun k e => .inl e)
      exact ⟨rfl, s, ⟨V, R, HREL.out, HDr.out⟩, ⟨rfl, rfl, rfl, rfl, hkk, fun k hk => .inl hk⟩⟩
    · go_upto_region 4 with (with_reducible refine wpList_next1 rfl (.tmp 26) rfl r s.gM clock c0 seen rfl es clock HIT.out HESr.out HOLD.out hc0 hz ?_; intro e he w1 hw1)
      have hee := mem_left he
      obtain ⟨hk, hv⟩ := HKY.out e hee.1
      obtain ⟨av, n, cv, hfv⟩ := HFU.out e hee.1
      obtain ⟨ka, kb, kc, h1, h2, h3, hkk⟩ := hk
      have hsh := left_shrinks es seen e he
      have HSH := Lib.hid hsh
      obtain ⟨key, val, born⟩ := e
      simp only at hkk hv hfv hee
      subst hkk
      subst hfv
      have hown := HDr.out.k.keys ka kb kc h1 h2 h3
      rw [← hv] at hown
      have hi4 : (setBlock w1 r (.mapIter (some s.gM) clock (seen.push born) clock)).heap[r]? = some (.mapIter (some s.gM) clock (seen.push born) clock) := by
        have hx : w1.heap[r]? = some (.mapIter (some s.gM) clock seen c0) := by rcases hw1 with rfl | rfl <;> exact HIT.out
        show (w1.heap.setIfInBounds r _)[r]? = _
        rw [Array.getElem?_setIfInBounds_self_of_lt (Base.lt_of_heap hx)]
      have hk4 := keeps_block wr w1 hw1 r (.mapIter (some s.gM) clock (seen.push born) clock)
      obtain ⟨w2, hw2⟩ : ∃ ww, ww = setBlock w1 r (.mapIter (some s.gM) clock (seen.push born) clock) := ⟨_, rfl⟩
      rw [← hw2] at hi4 hk4
      have HI4 := Lib.hid hi4
      have HK4 := Lib.hid hk4
      have HES4 := Lib.hid ((hk4.block s.gM (Base.lt_of_heap HESr.out) (fun e => HRN.out .m s.gM rfl e)).trans HESr.out)
      have HD4 := Lib.hid (HDr.out.frame hk4 (fun x b hb e => HRN.out x b hb e))
      have hown4 := hown.frame hk4 (fun b hb e => HRN.out (.key (k3 ka kb kc)) b (by show (s.P (k3 ka kb kc)).ownBlock = some b; rw [← hv]; exact hb) e)
      have HEM := Lib.hid hee.1
      have HOW4 := Lib.hid hown4
      have hlen : (plc B N ka kb kc).length = n + 1 := by
        obtain ⟨a', c', e', -⟩ := hown4.seq.shape
        simp only [Value.slice.injEq] at e'
        exact e'.2.1.symm
      obtain ⟨bb, off, cap', ev, hbb, hcell⟩ := hown4.seq.cells (by intro e; rw [e] at hlen; simp at hlen)
      simp only [Value.slice.injEq] at ev
      obtain ⟨rfl, -, -⟩ := ev
      have hc00 := hcell 0 (by omega)
      obtain ⟨p, hp⟩ : ∃ p, p = (plc B N ka kb kc)[0]'(by omega) := ⟨_, rfl⟩
      rw [← hp] at hc00
      have hc00 : w2.cell? ⟨bb, off, none⟩ = some (.int .i64 (p : Int)) := hc00
      have hn9 := hown4.seq.open_
      obtain ⟨a9, c9, e9, hmx, -⟩ := hn9
      rw [hlen] at hmx
      clear hee hv hsh hi4 hk4 hown hown4 hcell hp he hw1 hz e9
      go_upto_region 6 with (with_reducible refine wpList_entry rfl (.tmp 26) rfl r s.gM clock seen rfl es clock ⟨k3 ka kb kc, .slice (some ⟨bb, off, none⟩) (n + 1) cv, born⟩ (by rw [← hw2]; exact HI4.out) (by rw [← hw2]; exact HES4.out) HEM.out HNOD.out ?_)
      rw [← hw2]
      have ha5 := ext_alloc w2 (.cells #[.int .u8 (ka : Int), .int .u8 (kb : Int), .int .u8 (kc : Int)] 103)
      have HI5 := Lib.hid ((ha5.block r (Base.lt_of_heap HI4.out)).trans HI4.out)
      have HD5 := Lib.hid (HD4.out.ext ha5)
      have hc05 : (w2.alloc (.cells #[.int .u8 (ka : Int), .int .u8 (kb : Int), .int .u8 (kc : Int)] 103)).cell? ⟨bb, off, none⟩ = some (.int .i64 (p : Int)) := (ha5.cell (p := ⟨bb, off, none⟩) hbb).trans hc00
      have HKA := Lib.hid (show Keeps (fun k => k = r) wr (w2.alloc (.cells #[.int .u8 (ka : Int), .int .u8 (kb : Int), .int .u8 (kc : Int)] 103)) from HK4.out.trans (Keeps.of_ext ha5 (fun _ => False)) (fun _ h => h.elim))
      obtain ⟨w3, hw3⟩ : ∃ ww, ww = w2.alloc (.cells #[.int .u8 (ka : Int), .int .u8 (kb : Int), .int .u8 (kc : Int)] 103) := ⟨_, rfl⟩
      obtain ⟨g2, hg2⟩ : ∃ g, g = w2.heap.size := ⟨_, rfl⟩
      rw [← hw3] at HI5 HD5 hc05 HKA ⊢
      rw [← hg2]
      have HC5 := Lib.hid hc05
      clear hw3 hg2 ha5 hc05 hc00 HI4 HD4 HES4 HK4 hw2 hbb
      go_loopw [4] (fun v4 wr2 => v4 = .int .i64 0 ∧ Below w3.heap.size w3 wr2) (fun _ _ => 0)
      case atStart => exact ⟨rfl, Below.refl _ _⟩
      case round =>
        obtain ⟨rfl, hb6⟩ := hrel
        have HB6' := Lib.hid hb6
        have hd6 := HD5.out.ext hb6
        have z0 := fun d os => cell_regrown (cell_of_below2 hb6 HC5.out) d os
        have z5 := fun d os => cell_regrown hd6.row.cells.2.2.2.2.2.1 d os
        have dp : decide ((p : Int) < 0) = false := decide_eq_false (by omega)
        have e1 : IntKind.i64.wrap (32768 - (32768 : Int)) = 0 := by decide
        have hn0 : 0 < n + 1 := by omega
        clear hb6 hd6
        go_upto_region 6 with (fail)
        refine wp_region_quiet_below (by kernel_rfl) (by kernel_rfl) ?_
        repeat (go_big_quiet_step (fail))
        refine wpQuiet_nil ?_
        first | (rintro _ ⟨⟨dq, odq⟩, rfl⟩) | (rintro ⟨dq, odq⟩)
        have hW6 := below_regrown wr dq odq
        obtain ⟨W6, eW6⟩ : ∃ ww, ww = grow (redrawn wr dq) odq := ⟨_, rfl⟩
        rw [← eW6] at hW6 ⊢
        clear eW6
        have HB6 := Lib.hid hW6
        clear hW6
        clear z0 z5
        have dn : ((0 : Int) == ((n + 1 : Nat) : Int)) = false := by simp; omega
        have dn2 : ((0 : Int) == (n : Int) + 1) = false := by simp; omega
        go_wp2_with fail
        have hbb6 := HB6'.out.trans (HB6.out.mono HB6'.out.size)
        have hkz : Keeps (fun k => k = r) W3 W6 := HKP.out.trans (HKA.out.trans (Keeps.of_ext hbb6 (fun _ => False)) (fun _ h => h.elim)) (fun k e => .inl e)
        refine ⟨⟨seen.push born, clock, (hbb6.block r (Base.lt_of_heap HI5.out)).trans HI5.out, Nat.le_refl _, hkz⟩, ?_⟩
        have hs1 : seenAt W6 r = seen.push born := by unfold seenAt; rw [(hbb6.block r (Base.lt_of_heap HI5.out)).trans HI5.out]
        rw [hs1, HSE.out]
        exact HSH.out
end Go.Proofs.Ytcchekkedgajpaa.DefFa
