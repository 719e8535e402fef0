/- The law ShaTexts. -/
import Derived.Test.YtmdhekpfkligiaaShaL
import Derived.Test.YtmdhekpfkligiaaArrE
import Derived.Test.YtmdhekpfkligiaaQb
set_option linter.unusedVariables false
set_option linter.unusedSimpArgs false
namespace Go.Proofs.Ytmdhekpfkligiaa.ShaX
open Go.Sort Go.RowKit ShaM Base Num Low ShaW ShaP ShaK ShaB ShaO ShaH ShaL Qb

/-! ### the text, digit by digit -/
theorem hexL_at (f : Nat → Nat) : ∀ (n i : Nat), i < n → (hexL (rowOf f n))[2 * i]? = some (dig (f i / 16)) ∧ (hexL (rowOf f n))[2 * i + 1]? = some (dig (f i % 16)) := by
  intro n
  induction n with
  | zero => intro i h; omega
  | succ n ih =>
    intro i h
    rw [hexL_snoc]
    by_cases hi : i < n
    · obtain ⟨h1, h2⟩ := ih i hi
      have hl := hexL_length f n
      rw [List.getElem?_append_left (by omega), List.getElem?_append_left (by omega)]
      exact ⟨h1, h2⟩
    · obtain rfl : i = n := by omega
      have hl := hexL_length f i
      rw [List.getElem?_append_right (by omega), List.getElem?_append_right (by omega), hl]
      rw [show 2 * i - 2 * i = 0 by omega, show 2 * i + 1 - 2 * i = 1 by omega]
      exact ⟨rfl, rfl⟩
theorem hexL_lt (f : Nat → Nat) (hf : ∀ i, f i < 256) (n : Nat) : ∀ x ∈ hexL (rowOf f n), x < 256 := by
  intro x hx
  simp only [hexL, rowOf, List.mem_flatMap, List.mem_map] at hx
  obtain ⟨a, ⟨i, _, rfl⟩, hx⟩ := hx
  have := hf i
  simp only [List.mem_cons, List.not_mem_nil, or_false] at hx
  rcases hx with rfl | rfl <;> exact dig_lt _ (by omega)
theorem dig_inj {a b : Nat} (ha : a < 16) (hb : b < 16) (h : dig a = dig b) : a = b := by
  unfold dig at h; split at h <;> split at h <;> omega
theorem hexL_inj {f g : Nat → Nat} (hf : ∀ i, f i < 256) (hg : ∀ i, g i < 256) {n : Nat} (h : hexL (rowOf f n) = hexL (rowOf g n)) (i : Nat) (hi : i < n) : f i = g i := by
  obtain ⟨a1, a2⟩ := hexL_at f n i hi
  obtain ⟨b1, b2⟩ := hexL_at g n i hi
  rw [h, b1] at a1
  rw [h, b2] at a2
  have e1 := dig_inj (by have := hg i; omega) (by have := hf i; omega) (Option.some.inj a1)
  have e2 := dig_inj (by have := hg i; omega) (by have := hf i; omega) (Option.some.inj a2)
  omega
theorem str_size (l : List Nat) : (strOf l).size = l.length := by
  have := congrArg List.length (strOf_data l)
  rw [List.length_map] at this
  exact this
theorem str_at (l : List Nat) (i n : Nat) (h : l[i]? = some n) (hn : n < 256) (hi : i < (strOf l).size) : ((strOf l)[i]'hi).toNat = n := by
  have e : (strOf l).data.toList[i]? = (l.map UInt8.ofNat)[i]? := by rw [strOf_data]
  rw [List.getElem?_map, h] at e
  have e2 : (strOf l).data[i]? = some (UInt8.ofNat n) := by rw [← Array.getElem?_toList, e]; rfl
  have e3 : (strOf l).data[i]? = some ((strOf l)[i]'hi) := Array.getElem?_eq_getElem hi
  rw [e3] at e2
  rw [Option.some.inj e2, UInt8.toNat_ofNat']
  omega
theorem run_str (l : List Nat) (i : Int) (n : Nat) (h0 : 0 ≤ i) (h : l[i.toNat]? = some n) (hn : n < 256) (w : World) :
    (Instr.index 9 (.string (strOf l)) (.int .i64 i)).run Try.prog w = .ok (.int .u8 (n : Int)) w := by
  have hlt : i.toNat < l.length := by
    rcases Nat.lt_or_ge i.toNat l.length with h' | h'
    · exact h'
    · rw [List.getElem?_eq_none h'] at h; simp at h
  have hs := str_size l
  rw [run_index_string w 9 (strOf l) .i64 i Try.underlying9, dif_pos ⟨h0, by omega⟩]
  rw [str_at l i.toNat n h hn (by omega)]

/-! ### two arrays -/
theorem u8_info : ∃ i, Try.prog.info? 5 = some i ∧ i.size = 1 := by
  have := ShaH.size_u8
  cases hq : Try.prog.info? 5 with
  | none => simp [hq] at this
  | some i => exact ⟨i, rfl, by simpa [hq] using this⟩
theorem eql_arr (f g : Nat → Nat) (b : Bool) (hb : b = (List.range 32).all fun i => decide (f i = g i)) (w : World) : (binOp .eql 23 (.agg (arr .u8 32 f)) (.agg (arr .u8 32 g))).run Try.prog w = .ok (.bool b) w := by
  obtain ⟨i, h1, h2⟩ := u8_info
  rw [run_eql_struct, run_equalIn_arr 23 5 32 .u8 f g Try.underlying23 Try.underlying5 i h1 (by kernel_rfl) w]
  rw [← hb]; rfl
theorem wpQuiet_eql_arr {ops : Array Oper} {C : World → Prop} {Q : Act → Prop} {rest : List Oper} {o : Oper} {a : Act} (hgd : Region.wanted o (yielded ops a.tmps) = true) (x y : Operand) (ty : TypeId)
    (ho : o.op = .binOp .eql 23 x y ty) (f g : Nat → Nat) (hx : a.eval x = .agg (arr .u8 32 f)) (hy : a.eval y = .agg (arr .u8 32 g)) (b : Bool) (hb : b = (List.range 32).all fun i => decide (f i = g i))
    (h : wpQuiet Try.prog ops C Q rest (a.put o.dst (.bool b))) : wpQuiet Try.prog ops C Q (o :: rest) a := by
  refine BigFrame.wpQuiet_want hgd fun K hK => ⟨.bool b, fun w _ => ?_, hK _ h⟩
  unfold Oper.quietAt
  simp only [execOp, ho, hx, hy, eql_arr f g b hb, Result.andThen, Sem.run_bind, Sem.run_pure, Oper.quietUpon]
  exact ⟨rfl, rfl⟩
theorem wpList_eql_same {ops : Array Oper} {rest : List Oper} {o : Oper} {a : Act} {w : World} {Q : Exit → Act → World → Prop} (hgd : o.guard = none) (x y : Operand) (ty : TypeId)
    (ho : o.op = .binOp .eql 23 x y ty) (f : Nat → Nat) (hx : a.eval x = .agg (arr .u8 32 f)) (hy : a.eval y = .agg (arr .u8 32 f))
    (h : wpList Try.prog ops Q rest (a.put o.dst (.bool true)) w) : wpList Try.prog ops Q (o :: rest) a w := by
  refine wpList_plain hgd fun K hK => ?_
  unfold Oper.wp
  simp only [execOp, ho, hx, hy, eql_arr f f true (by simp), Result.andThen, Sem.run_bind, Sem.run_pure]
  exact hK _ _ h
theorem wpQuiet_load_arr {ops : Array Oper} {W : World} {Q : Act → Prop} {rest : List Oper} {o : Oper} {a : Act} (hgd : Region.wanted o (yielded ops a.tmps) = true) (x : Operand)
    (ho : o.op = .load 23 x) (g : Nat) (hx : a.eval x = .pointer (some ⟨g, 0, none⟩)) (t : TypeId) (f : Nat → Nat) (fr : Nat × Nat) (hg : W.heap[g]? = some (.cells (arr .u8 32 f) t fr))
    (h : wpQuiet Try.prog ops (fun w' => ∃ p : Regrown, w' = grow (redrawn W p.d) p.os) Q rest (a.put o.dst (.agg (arr .u8 32 f)))) : wpQuiet Try.prog ops (fun w' => ∃ p : Regrown, w' = grow (redrawn W p.d) p.os) Q (o :: rest) a := by
  refine BigFrame.wpQuiet_want hgd fun K hK => ⟨.agg (arr .u8 32 f), fun w hw => ?_, hK _ h⟩
  obtain ⟨p, rfl⟩ := hw
  have hl := run_loadVar_row (P := Try.prog) (grow (redrawn W p.d) p.os) g t 23 (arr .u8 32 f) fr _ (heap_regrown hg p.d p.os) Try.underlying23 rfl (by rw [ShaH.size_32, arr_size])
  unfold Oper.quietAt execOp
  simp only [ho, hx, Instr.loadAt, Instr.sureAddr, Sem.run_bind, Sem.run_pure, Result.andThen_ok, hl, Oper.quietUpon]
  first | exact ⟨rfl, rfl⟩ | exact ⟨trivial, trivial⟩ | trivial

/-! ### a digit read again -/
set_option maxHeartbeats 400000 in
theorem digit_any (n : Nat) (hn : n < 16) (w : World) : Calls Try.prog 13 #[.int .u8 (dig n : Int)] w fun e w' => e = .returned (.int .i64 (n : Int)) ∧ w = w' := by
  by_cases h : n < 10
  · have e : dig n = 48 + n := by unfold dig; rw [if_pos h]
    rw [e]
    clear e
    go_enter Try.func13, Try.ntmps13
    go_wp2_with fail
    all_goals
      go_ret
      exact ⟨ret_int (by omega), rfl⟩
  · have e : dig n = 87 + n := by unfold dig; rw [if_neg h]
    rw [e]
    clear e
    go_enter Try.func13, Try.ntmps13
    go_wp2_with fail
    all_goals
      go_ret
      exact ⟨ret_int (by omega), rfl⟩
theorem texts_facts (f g : Nat → Nat) (hf : ∀ i, f i < 256) (hg : ∀ i, g i < 256) (b : Bool) (hb : b = (List.range 32).all fun i => decide (f i = g i)) :
    ((strOf (hexL (rowOf f 32))).toList == (strOf (hexL (rowOf g 32))).toList) = b := by
  rw [hb, Bool.eq_iff_iff, beq_iff_eq, List.all_eq_true, ByteArray.toList_eq, ByteArray.toList_eq]
  constructor
  · intro h i hi
    have e : strOf (hexL (rowOf f 32)) = strOf (hexL (rowOf g 32)) := by
      apply ByteArray.ext; exact Array.toList_inj.1 h
    have e2 := strOf_inj _ _ (hexL_lt f hf 32) (hexL_lt g hg 32) e
    exact decide_eq_true (hexL_inj hf hg e2 i (by simpa using hi))
  · intro h
    have e : rowOf f 32 = rowOf g 32 := by
      unfold rowOf
      apply List.map_congr_left
      intro i hi
      simpa using h i hi
    rw [e]
set_option maxRecDepth 100000 in
set_option maxHeartbeats 2000000 in
theorem texts_any (v : Value) (l : List Nat) (f g : Nat → Nat) (hf : ∀ i, f i < 256) (hg : ∀ i, g i < 256) (w : World) (hv : Nums .u8 256 w v l) :
    Calls Try.prog 5 #[v, .agg (arr .u8 32 g), .agg (arr .u8 32 f)] w fun e w' => e = .returned (.bool true) ∧ Below w.heap.size w w' := by
  obtain ⟨a0, cap0, rfl, hl1, hl2, hl3⟩ := hv.shape
  unfold maxLen at hl2
  have hV := Lib.hid hv
  have hF := Lib.hid hf
  have hG := Lib.hid hg
  clear hv hf hg hl3
  by_cases hbig : 2000 < l.length
  · go_enter Try.func5, Try.ntmps5
    go_wp2_with fail
    refine (awake_any _).mono ?_
    rintro e w1 ⟨rfl, hb1⟩
    have H1 := Lib.hid (((ext_alloc w _).alloc (by simp) _).trans (hb1.mono (by simp; omega)))
    clear hb1
    go_wp2_with fail
    go_ret
    exact ⟨rfl, H1.out⟩
  · obtain ⟨b, hb⟩ : ∃ b, b = (List.range 32).all fun i => decide (g i = f i) := ⟨_, rfl⟩
    have hS := Lib.hid (texts_facts g f hG.out hF.out b hb)
    have hB := Lib.hid hb
    have hsz := Lib.hid (show (strOf (hexL (rowOf f 32))).size = 64 by rw [str_size, hexL_length])
    have hat := Lib.hid (fun (i : Nat) (hi : i < 32) => hexL_at f 32 i hi)
    obtain ⟨L, hL⟩ : ∃ L, L = hexL (rowOf f 32) := ⟨_, rfl⟩
    have hLx := Lib.hid hL
    rw [← hL] at hS hsz hat
    clear hb hL
    go_enter Try.func5, Try.ntmps5
    have hr0 : ((w.alloc (.cells (arr .u8 32 g) 23)).alloc (.cells (arr .u8 32 f) 23)).heap[w.heap.size + 1]? = some (.cells (arr .u8 32 f) 23 (0, 0)) := by
      have := heap_alloc_new (w.alloc (.cells (arr .u8 32 g) 23)) (.cells (arr .u8 32 f) 23)
      simpa using this
    have hr1 : ((w.alloc (.cells (arr .u8 32 g) 23)).alloc (.cells (arr .u8 32 f) 23)).heap[w.heap.size]? = some (.cells (arr .u8 32 g) 23 (0, 0)) := by
      rw [heap_alloc_old _ _ (by simp)]; exact heap_alloc_new _ _
    have s1 : (Try.prog.info? 23).map (·.size) = some (arr .u8 32 f).size := by rw [ShaH.size_32, arr_size]
    have R0 := Lib.hid hr0
    have R1 := Lib.hid hr1
    have S1 := Lib.hid s1
    clear hr0 hr1 s1
    go_wp2_with ((with_reducible refine wpList_load_row rfl 23 (.tmp 5) rfl (w.heap.size + 1) rfl 23 (arr .u8 32 f) (0, 0) _ R0.out Try.underlying23 rfl S1.out ?_))
    refine (hex_any f hF.out _).mono ?_
    rintro e w1 ⟨rfl, hb1⟩
    have hbw : Below w.heap.size w w1 := ((ext_alloc w _).alloc (by simp) _).trans (hb1.mono (by simp; omega))
    have hr0 : w1.heap[w.heap.size + 1]? = some (.cells (arr .u8 32 f) 23 (0, 0)) := (hb1.block _ (by simp)).trans R0.out
    have hr1 : w1.heap[w.heap.size]? = some (.cells (arr .u8 32 g) 23 (0, 0)) := (hb1.block _ (by simp; omega)).trans R1.out
    have q1 := qb (P := Try.prog) (W := w1) (f := 6) (fun w2 hb => hex_any g hG.out w2)
    have BW := Lib.hid hbw
    have Q0 := Lib.hid hr0
    have Q1 := Lib.hid hr1
    have Q2 := Lib.hid q1
    clear hb1 hbw hr0 hr1 q1 R0 R1
    rw [← hLx.out]
    have hszf := hsz.out
    have hS2 : ((strOf (hexL (rowOf g 32))).toList == (strOf L).toList) = b := hS.out
    go_wp2_with fail
    refine wp_region_quiet_below (by kernel_rfl) (by kernel_rfl) ?_
    repeat (first
      | (refine wpQuiet_eql_arr rfl (.tmp 23) (.tmp 24) _ rfl g f rfl rfl b hB.out ?_; go_simp)
      | (refine wpQuiet_load_arr rfl (.tmp 4) rfl w.heap.size rfl 23 g (0, 0) Q1.out ?_; go_simp)
      | (refine wpQuiet_load_arr rfl (.tmp 5) rfl (w.heap.size + 1) rfl 23 f (0, 0) Q0.out ?_; go_simp)
      | go_big_quiet_step (exact Q2.out _ _))
    refine wpQuiet_nil ?_
    first | (rintro _ ⟨⟨dq, osq⟩, rfl⟩) | (rintro ⟨dq, osq⟩)
    obtain ⟨w2, hw2⟩ : ∃ w2, w2 = grow (redrawn w1 dq) osq := ⟨_, rfl⟩
    have hb2 : Below w1.heap.size w1 w2 := by rw [hw2]; exact below_regrown w1 dq osq
    simp only [← hw2]
    clear hw2
    have B2 := Lib.hid hb2
    clear hb2
    go_wp2_with fail
    go_loopw [8] (fun v wr => ∃ i : Nat, i ≤ 32 ∧ v = .int .i64 (i : Int) ∧ Below w1.heap.size w1 wr) (fun v _ => 32 - (intOf v).toNat)
    case atStart => exact ⟨0, by omega, rfl, B2.out⟩
    case round =>
      obtain ⟨i, hi, rfl, hb⟩ := hrel
      have hB' := Lib.hid hb
      clear hb
      by_cases hlt : i < 32
      · have hfi := hF.out i
        have a0 := (hat.out i hlt).1
        have a1 := (hat.out i hlt).2
        have hx : f i / 16 < 16 := by omega
        have hy : f i % 16 < 16 := by omega
        have hz : 16 * (f i / 16) + f i % 16 = f i := by omega
        have hcell : wr.cell? ⟨w.heap.size + 1, i, none⟩ = some (.int .u8 (f i : Int)) := by
          rw [cell_of_row wr (w.heap.size + 1) i _ _ _ ((hB'.out.block _ (lt_of_heap Q0.out)).trans Q0.out), arr_at _ _ _ _ hlt]
        obtain ⟨x, hx'⟩ : ∃ x, f i / 16 = x := ⟨_, rfl⟩
        obtain ⟨y, hy'⟩ : ∃ y, f i % 16 = y := ⟨_, rfl⟩
        obtain ⟨z, hz'⟩ : ∃ z, f i = z := ⟨_, rfl⟩
        rw [hx'] at a0 hx hz
        rw [hy'] at a1 hy hz
        rw [hz'] at hz hfi hcell
        have dx := dig_lt x hx
        have dy := dig_lt y hy
        have i0 := fun W => run_str L (2 * (i : Int)) (dig x) (by omega) (by rw [show (2 * (i : Int)).toNat = 2 * i by omega]; exact a0) dx W
        have i1 := fun W => run_str L (2 * (i : Int) + 1) (dig y) (by omega) (by rw [show (2 * (i : Int) + 1).toNat = 2 * i + 1 by omega]; exact a1) dy W
        have c0 := cell_regrown hcell
        have d0 := qs (W := wr) (fun W => digit_any x hx W)
        have d1 := qs (W := wr) (fun W => digit_any y hy W)
        have D0 := Lib.hid d0
        have D1 := Lib.hid d1
        have t0 : decide ((x : Int) < 0) = false := decide_eq_false (by omega)
        have t1 : decide ((y : Int) < 0) = false := decide_eq_false (by omega)
        have e0 : IntKind.i64.wrap (2 * (i : Int)) = 2 * (i : Int) := IntWalk.i64_in _ (by omega)
        have e1 : IntKind.i64.wrap (2 * (i : Int) + 1) = 2 * (i : Int) + 1 := IntWalk.i64_in _ (by omega)
        have e2 : IntKind.u8.wrap (16 * (x : Int) + (y : Int)) = (z : Int) := by rw [IntKind.wrap_u8]; omega
        clear d0 d1 a0 a1 hcell hx' hy' hz' dx dy
        go_wp2_with fail
        refine wp_region_quiet_below (by kernel_rfl) (by kernel_rfl) ?_
        repeat (go_big_quiet_step (first | (with_reducible exact D0.out _ _) | (with_reducible exact D1.out _ _)))
        refine wpQuiet_nil ?_
        first | (rintro _ ⟨⟨dq2, osq2⟩, rfl⟩) | (rintro ⟨dq2, osq2⟩)
        obtain ⟨w3, hw3⟩ : ∃ w3, w3 = grow (redrawn wr dq2) osq2 := ⟨_, rfl⟩
        have hb3 : Below w1.heap.size w1 w3 := by rw [hw3]; exact hB'.out.trans ((below_regrown wr dq2 osq2).mono hB'.out.size)
        simp only [← hw3]
        clear hw3
        have B3 := Lib.hid hb3
        clear hb3 i0 i1 c0 e0 e1 e2 D0 D1
        go_wp2_with fail
        go_roundw
        case rel => exact ⟨i + 1, by omega, by go_num, B3.out⟩
        case measure => simp [intOf]; omega
      · have hi' : 32 ≤ i := by omega
        have hbw : Below w.heap.size w wr := BW.out.trans (hB'.out.mono BW.out.size)
        have HN := Lib.hid (hV.out.below hbw (Nat.le_refl _))
        have HBW := Lib.hid hbw
        clear hbw
        go_wp2_with fail
        refine (of_hf _ l _ HN.out (by omega)).mono ?_
        rintro e w3 ⟨rfl, hb3⟩
        have HN3 := Lib.hid (HN.out.below hb3 (Nat.le_refl _))
        have HB3 := Lib.hid (HBW.out.trans (hb3.mono HBW.out.size))
        clear hb3
        go_wp2_with fail
        refine (of_hf _ l _ HN3.out (by omega)).mono ?_
        rintro e w4 ⟨rfl, hb4⟩
        have HB4 := Lib.hid (HB3.out.trans (hb4.mono HB3.out.size))
        clear hb4
        go_wp2_with (with_reducible refine wpList_eql_same rfl (.tmp 68) (.tmp 70) _ rfl (hf l) rfl rfl ?_)
        refine (awake_any _).mono ?_
        rintro e w5 ⟨rfl, hb5⟩
        have HB5 := Lib.hid (HB4.out.trans (hb5.mono HB4.out.size))
        clear hb5
        go_wp2_with fail
        go_ret
        exact ⟨rfl, HB5.out⟩
end Go.Proofs.Ytmdhekpfkligiaa.ShaX
