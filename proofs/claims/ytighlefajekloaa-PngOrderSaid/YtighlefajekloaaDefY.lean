/- Package deflate: matched. -/
import Derived.Test.YtighlefajekloaaDefX
import Derived.Test.YtighlefajekloaaQu
set_option linter.unusedVariables false
set_option linter.unusedSimpArgs false
namespace Go.Proofs.Ytighlefajekloaa.DefY
open Go.RowKit Go.Sort BitsM Base DefM DefN DefV DefW DefX Qb Qp Qy Rec
/-- what a call leaves that puts fields behind others -/
def FTo (base : Nat) (w : World) (vf : Value) (l : List (Nat × Nat)) (e : Ending) (w' : World) : Prop :=
  ∃ v', e = .returned v' ∧ RecsOwn 2 encF 106 base w' v' l ∧ Keeps (fun k => vf.ownBlock = some k) w w' ∧ (v'.ownBlock = vf.ownBlock ∨ ∀ k, v'.ownBlock = some k → w.heap.size ≤ k)
def own (v : Value) (k : Nat) : Prop := v.ownBlock = some k
theorem own_step {vf : Value} {W w w' : World} (h : Keeps (own vf) W w) (hb : Below w.heap.size w w') : Keeps (own vf) W w' := h.trans (Keeps.of_ext hb (fun _ => False)) (fun _ h => h.elim)
theorem own_grown {vf : Value} {W w w' : World} (h : Keeps (own vf) W w) (hg : w.grownBy w' vf.ownBlock) : Keeps (own vf) W w' := h.grown hg (fun k hk => .inl hk)
theorem cells2 {w : World} {g : Nat} {a b : Value} (h : w.heap[g]? = some (.cells #[a, b] 106)) : (∀ d os, (grow (redrawn w d) os).cell? ⟨g, 0, none⟩ = some a) ∧ (∀ d os, (grow (redrawn w d) os).cell? ⟨g, 1, none⟩ = some b) :=
  ⟨fun d os => cell_regrown (cell_of_row _ _ 0 _ _ _ h) d os, fun d os => cell_regrown (cell_of_row _ _ 1 _ _ _ h) d os⟩
theorem symbol_at (w : World) (s : Nat) (hs : s < 288) (x y : Nat) (h : symT s = (x, y)) : Calls Try.prog 61 #[.int .i64 (s : Int)] w fun e w' => e = .returned (.agg #[.int .u32 (x : Int), .int .i64 (y : Int)]) ∧ Below w.heap.size w w' := by
  have := symbol_any w s hs
  rw [h] at this
  exact this
theorem among_atD (w : World) (n from' sp fin : Nat) (hn : n ≤ 100000) (hf : from' ≤ n) (hA : amongG wideD n 30 0 from' = (sp, fin)) (hsp : sp < 30) (hfin : fin ≤ n) (x y : Nat) (hx : n - fin = x) (hy : wideD sp = y) :
    Calls Try.prog 71 #[.int .i64 (n : Int), .int .i64 (from' : Int), .func (.func 73) #[] #[]] w fun e w' => e = .returned (.tuple #[.int .i64 (sp : Int), .agg #[.int .u32 (x : Int), .int .i64 (y : Int)]]) ∧ Below w.heap.size w w' := by
  subst hx hy; exact among_wideD w n from' sp fin hn hf hA hsp hfin
theorem among_atL (w : World) (n from' sp fin : Nat) (hn : n ≤ 100000) (hf : from' ≤ n) (hA : amongG wideL n 30 0 from' = (sp, fin)) (hsp : sp < 30) (hfin : fin ≤ n) (x y : Nat) (hx : n - fin = x) (hy : wideL sp = y) :
    Calls Try.prog 71 #[.int .i64 (n : Int), .int .i64 (from' : Int), .func (.func 72) #[] #[]] w fun e w' => e = .returned (.tuple #[.int .i64 (sp : Int), .agg #[.int .u32 (x : Int), .int .i64 (y : Int)]]) ∧ Below w.heap.size w w' := by
  subst hx hy; exact among_wideL w n from' sp fin hn hf hA hsp hfin
theorem build_twoI (w : World) (a b c d : Int) (A : Act) (o : Oper) (x y : Operand) (ho : o.op = .buildSlice 107 2 #[(0, x), (1, y)]) (hx : A.eval x = .agg #[.int .u32 a, .int .i64 b]) (hy : A.eval y = .agg #[.int .u32 c, .int .i64 d]) :
    (execOp A.eval o).run Try.prog w = .ok (.value (.slice (some ⟨w.heap.size, 0, none⟩) 2 2)) (w.alloc (.cells #[.int .u32 a, .int .i64 b, .int .u32 c, .int .i64 d] 106)) := by
  have e := build_two w a b c d
  simp only [execOp, ho]
  simp [hx, hy, e, Result.andThen]
theorem build_oneI (w : World) (a b : Int) (A : Act) (o : Oper) (x : Operand) (ho : o.op = .buildSlice 107 1 #[(0, x)]) (hx : A.eval x = .agg #[.int .u32 a, .int .i64 b]) :
    (execOp A.eval o).run Try.prog w = .ok (.value (.slice (some ⟨w.heap.size, 0, none⟩) 1 1)) (w.alloc (.cells #[.int .u32 a, .int .i64 b] 106)) := by
  have e := build_one w a b
  simp only [execOp, ho]
  simp [hx, e, Result.andThen]
theorem turned_at (w : World) (c k : Nat) (h5 : 5 ≤ k) (hk : k < 10) (hc : c < 2 ^ k) (x y : Nat) (h : revT c k = (x, y)) : Calls Try.prog 74 #[.int .i64 (c : Int), .int .i64 (k : Int)] w fun e w' => e = .returned (.agg #[.int .u32 (x : Int), .int .i64 (y : Int)]) ∧ Below w.heap.size w w' := by
  have := turned_any w c k h5 hk hc
  rw [h] at this
  exact this
theorem turned_5 (w : World) (c : Nat) (hc : c < 30) (x : Nat) (h : revT c 5 = (x, 5)) : Calls Try.prog 74 #[.int .i64 (c : Int), .int .i64 5] w fun e w' => e = .returned (.agg #[.int .u32 (x : Int), .int .i64 5]) ∧ Below w.heap.size w w' := turned_at w c 5 (by omega) (by omega) (by omega) x 5 h
theorem results_one {P : Program} {fn : Func} {q : Tmp} (h : fn.results = #[.tmp q]) (tmps : Array Value) (w : World) : (results fn tmps).run P w = .ok (tmps.getD q undef) w := by simp [results, h]
set_option maxRecDepth 100000 in
set_option maxHeartbeats 2000000 in
theorem matched_any (base : Nat) (w : World) (vf : Value) (l : List (Nat × Nat)) (n d : Nat) (h : RecsOwn 2 encF 106 base w vf l) (hn : 3 ≤ n) (hn2 : n ≤ 258) (hd : 1 ≤ d) (hd2 : d ≤ 32768) (hl : l.length ≤ 1000000) (hbase : base ≤ w.heap.size) :
    Calls Try.prog 60 #[vf, .int .i64 (n : Int), .int .i64 (d : Int)] w (FTo base w vf (l ++ tokT (.mat n d))) := by
  obtain ⟨fd, hfd⟩ : ∃ fd, findF dstT d = fd := ⟨_, rfl⟩
  obtain ⟨fin, hfin⟩ : ∃ fin, dstT.getD fd 0 = fin := ⟨_, rfl⟩
  have hdf := dst_facts d hd hd2
  rw [hfd, hfin] at hdf
  have hAD := among_dst d hd hd2
  rw [hfd, hfin] at hAD
  have HAD := Lib.hid hAD
  have HDF := Lib.hid hdf
  have HF := Lib.hid h
  have HB := Lib.hid hbase
  have hT2 : ∀ (ff : List (Nat × Nat)), tokT (.mat n d) = (if n = 258 then [symT 285] else [symT (257 + findF lenT n), (n - lenT.getD (findF lenT n) 0, wideL (findF lenT n))]) ++ [revT fd 5, (d - fin, wideD fd)] := by
    intro _; show (if n = 258 then _ else _) ++ [revT (findF dstT d) 5, (d - dstT.getD (findF dstT d) 0, wideD (findF dstT d))] = _; rw [hfd, hfin]
  have HT2 := Lib.hid (hT2 [])
  clear hAD hdf h hfd hfin hbase hT2
  obtain ⟨x9, hx9⟩ : ∃ x, d - fin = x := ⟨_, rfl⟩
  obtain ⟨y9, hy9⟩ : ∃ y, wideD fd = y := ⟨_, rfl⟩
  obtain ⟨r7, hr7⟩ : ∃ r, revT fd 5 = (r, 5) := ⟨_, rfl⟩
  rw [hx9, hy9, hr7] at HT2
  have HX9 := Lib.hid hx9
  have HY9 := Lib.hid hy9
  have HR7 := Lib.hid hr7
  clear hx9 hy9 hr7
  by_cases h258 : n = 258
  · have d1 : ((n : Int) == 258) = true := by simp; omega
    obtain ⟨r5, w5, hs5⟩ : ∃ r5 w5, symT 285 = (r5, w5) := ⟨_, _, rfl⟩
    have HS5 := Lib.hid hs5
    clear hs5
    go_enter Try.func60, Try.ntmps60
    have R1 := build_one
    go_wp2_with fail
    refine (symbol_at w 285 (by omega) r5 w5 HS5.out).mono ?_
    rintro e w1 ⟨rfl, hb1⟩
    have HB1 := Lib.hid hb1
    clear hb1
    have HR := Lib.hid (recs_one fields.len 106 w1 ((r5, w5) : Nat × Nat) #[.int .u32 (r5 : Int), .int .i64 (w5 : Int)] rfl)
    have HS := Lib.hid (HB1.out.trans ((ext_alloc w1 (.cells #[.int .u32 (r5 : Int), .int .i64 (w5 : Int)] 106)).mono HB1.out.size))
    have HFA := Lib.hid (HF.out.below HS.out (Nat.le_refl _))
    have HSZ := Lib.hid (Nat.le_trans HB.out HS.out.size)
    go_upto_region 5 with (at_builtin; go_loud (refine wpList_append_recs rfl (.tmp 13) (.tmp 15) 107 106 rfl _ 16 base fields vf l rfl HFA.out _ [((r5, w5) : Nat × Nat)] rfl HR.out (by simp; omega) (by simp; omega) HSZ.out ?_; intro v1 W1 ho hg hv; have HF1 := Lib.hid ho; have HK1 := Lib.hid ((Keeps.of_ext HS.out (own vf)).grown hg (fun k hk => .inl hk)); have HO1 := Lib.hid (show v1.ownBlock = vf.ownBlock ∨ ∀ k, v1.ownBlock = some k → w.heap.size ≤ k from by rcases hv with e | e; exact .inl e; exact .inr (fun k hk => by rw [e] at hk; cases hk; exact HS.out.size)); clear ho hg hv))
    obtain ⟨l1, hl1⟩ : ∃ l1, l1 = l ++ [((r5, w5) : Nat × Nat)] := ⟨_, rfl⟩
    have HTK := Lib.hid (show l ++ tokT (.mat n d) = l1 ++ [((r7, 5) : Nat × Nat), (x9, y9)] from by rw [HT2.out, if_pos h258, hl1, HS5.out, List.append_assoc])
    have HLN := Lib.hid (show l1.length ≤ 1000002 from by rw [hl1]; simp; omega)
    rw [← hl1] at HF1
    have HB1 := Lib.hid (Nat.le_trans HB.out HK1.out.size)
    clear hl1 R1 HR HS HFA HSZ HB1
    have HB1 := Lib.hid (Nat.le_trans HB.out HK1.out.size)
    go_wp2_with fail
    refine (among_atD W1 d 1 fd fin (by omega) (by omega) HAD.out (by have := HDF.out; omega) (by have := HDF.out; omega) x9 y9 HX9.out HY9.out).mono ?_
    rintro e W2 ⟨rfl, hb2⟩
    have HN2 := Lib.hid (heap_alloc_new W2 (.cells #[.int .u32 0, .int .i64 0] 106))
    have HA2 := Lib.hid (hb2.trans ((ext_alloc W2 (.cells #[.int .u32 0, .int .i64 0] 106)).mono hb2.size))
    have HG2 := Lib.hid hb2.size
    clear hb2
    obtain ⟨W3, hW3⟩ : ∃ W3, W3 = W2.alloc (.cells #[.int .u32 0, .int .i64 0] 106) := ⟨_, rfl⟩
    obtain ⟨g10, hg10⟩ : ∃ g, g = W2.heap.size := ⟨_, rfl⟩
    rw [← hW3, ← hg10] at HN2
    rw [← hW3] at HA2
    rw [← hg10] at HG2
    have HW3 := Lib.hid hW3
    have HG10 := Lib.hid hg10
    clear hW3 hg10
    go_upto_region 6 with (with_reducible refine store_f rfl (.tmp 10) (.tmp 33) rfl rfl W2.heap.size (x9 : Int) (y9 : Int) rfl rfl _ (by rw [← HW3.out, ← HG10.out]; exact HN2.out) rfl ?_)
    rw [← HW3.out, ← HG10.out]
    have HR4 := Lib.hid (show (W3.setRow g10 #[.int .u32 (x9 : Int), .int .i64 (y9 : Int)]).heap[g10]? = some (.cells #[.int .u32 (x9 : Int), .int .i64 (y9 : Int)] 106) from setRow_heap _ _ _ _ _ _ HN2.out)
    have HA4 := Lib.hid (show Below W1.heap.size W1 (W3.setRow g10 #[.int .u32 (x9 : Int), .int .i64 (y9 : Int)]) from below_setRow_new HA2.out HG2.out _)
    obtain ⟨W4, hW4⟩ : ∃ W4, W4 = W3.setRow g10 #[.int .u32 (x9 : Int), .int .i64 (y9 : Int)] := ⟨_, rfl⟩
    rw [← hW4] at HR4 HA4 ⊢
    clear hW4 HW3 HG10 HN2 HA2
    have HF4 := Lib.hid (HF1.out.below HA4.out (Nat.le_refl _))
    have HV4 := Lib.hid (show ∀ k, v1.ownBlock = some k → ¬ k = g10 from fun k hk e => by have := (HF1.out.lt k hk).2; have := HG2.out; omega)
    have HS4 := Lib.hid (show base ≤ W4.heap.size ∧ w.heap.size ≤ W4.heap.size from ⟨Nat.le_trans HB1.out HA4.out.size, Nat.le_trans HK1.out.size HA4.out.size⟩)
    have HD := Lib.hid (show FD 2 encF 106 base w.heap.size (Keeps (own v1) W4) v1 l1 [((r7, 5) : Nat × Nat), (x9, y9)] #[.int .u32 (r7 : Int), .int .i64 5, .int .u32 (x9 : Int), .int .i64 (y9 : Int)] .p0 W4 from ⟨Keeps.refl _ _, HF4.out⟩)
    refine wp_region_script [(true, 0), (true, 1), (true, 2), (true, 3), (false, 4), (false, 5), (true, 6)] (FD 2 encF 106 base w.heap.size (Keeps (own v1) W4) v1 l1 [((r7, 5) : Nat × Nat), (x9, y9)] #[.int .u32 (r7 : Int), .int .i64 5, .int .u32 (x9 : Int), .int .i64 (y9 : Int)]) .p0 (by kernel_rfl) (by kernel_rfl) (HD.out.step (fun _ _ => own_step) ⟨rfl, rfl, rfl, Nat.le_refl _, fun _ _ => rfl⟩) ?_
    refine Scr.quiet (A := ?A1) (o := ?o1) (fun s9 w9 w8 h9 hb9 => h9.step (fun _ _ => own_step) hb9) _ W4 HD.out ?e1 ?w1 34 ?d1 (by simp) ?h1 ?n1
    case e1 => simp only [List.getElem?_toArray, List.getElem?_cons_succ, List.getElem?_cons_zero]; exact rfl
    case w1 => exact rfl
    case d1 => exact rfl
    case h1 =>
      intro s9 w9 h9
      go_big_quiet_op
      exact rfl
    refine Scr.quiet (A := ?A2) (o := ?o2) (fun s9 w9 w8 h9 hb9 => h9.step (fun _ _ => own_step) hb9) _ W4 HD.out ?e2 ?w2 35 ?d2 (by simp) ?h2 ?n2
    case e2 => simp only [List.getElem?_toArray, List.getElem?_cons_succ, List.getElem?_cons_zero]; exact rfl
    case w2 => exact rfl
    case d2 => exact rfl
    case h2 =>
      intro s9 w9 h9
      go_big_quiet_op
      exact rfl
    refine Scr.quiet (A := ?A3) (o := ?o3) (fun s9 w9 w8 h9 hb9 => h9.step (fun _ _ => own_step) hb9) _ W4 HD.out ?e3 ?w3 36 ?d3 (by simp) ?h3 ?n3
    case e3 => simp only [List.getElem?_toArray, List.getElem?_cons_succ, List.getElem?_cons_zero]; exact rfl
    case w3 => exact rfl
    case d3 => exact rfl
    case h3 =>
      intro s9 w9 h9
      have R9 := Lib.hid (qb (W := w9) (v := .agg #[.int .u32 (r7 : Int), .int .i64 5]) (fun w2 hb => turned_5 w2 fd (by have := HDF.out; omega) r7 HR7.out))
      go_big_quiet_op
      apply Exists.intro
      refine ⟨fun _ => ?_, ?_⟩
      · with_reducible exact R9.out _ _
      · exact rfl
    refine Scr.quiet (A := ?A4) (o := ?o4) (fun s9 w9 w8 h9 hb9 => h9.step (fun _ _ => own_step) hb9) _ W4 HD.out ?e4 ?w4 37 ?d4 (by simp) ?h4 ?n4
    case e4 => simp only [List.getElem?_toArray, List.getElem?_cons_succ, List.getElem?_cons_zero]; exact rfl
    case w4 => exact rfl
    case d4 => exact rfl
    case h4 =>
      intro s9 w9 h9
      obtain ⟨e0, e1⟩ := cells2 ((h9.j.block g10 (lt_of_heap HR4.out) (fun e => HV4.out _ e rfl)).trans HR4.out)
      go_big_quiet_op
      exact rfl
    refine Scr.app (ob := ?ob) (oa := ?oa) fields (fun _ _ => own_step) (fun _ _ h _ hg => own_grown h hg) (fun _ h => Nat.le_trans HS4.out.1 h.size) (fun _ h => Nat.le_trans HS4.out.2 h.size) rfl (by have := HLN.out; simp; omega) (by have := HLN.out; simp; omega) 2 rfl ?eb ?wb ?rb ?ea ?ga (.tmp 34) (.tmp 38) ?oq ?os ?ox ?_
    case eb => simp only [List.getElem?_toArray, List.getElem?_cons_succ, List.getElem?_cons_zero]; exact rfl
    case wb => exact rfl
    case rb => exact fun w9 => build_twoI w9 _ _ _ _ _ _ (.tmp 36) (.tmp 37) rfl rfl rfl
    case ea => simp only [List.getElem?_toArray, List.getElem?_cons_succ, List.getElem?_cons_zero]; exact rfl
    case ga => exact rfl
    case oq => exact rfl
    case os => exact fun _ => rfl
    case ox => exact fun _ => rfl
    intro gs v2
    simp only [Act.put, List.setIfInBounds_toArray, List.set_cons_succ, List.set_cons_zero]
    refine Scr.quiet (A := ?A5) (o := ?o5) (fun s9 w9 w8 h9 hb9 => h9.step (fun _ _ => own_step) hb9) _ W4 HD.out ?e5 ?w5 6 ?d5 (by simp) ?h5 ?n5
    case e5 => simp only [List.getElem?_toArray, List.getElem?_cons_succ, List.getElem?_cons_zero]; exact rfl
    case w5 => exact rfl
    case d5 => exact rfl
    case h5 =>
      intro s9 w9 h9
      go_big_quiet_op
      exact rfl
    rintro w7 ⟨h7, hf7, ho7⟩
    go_wp2_with fail
    go_ret
    refine ⟨v2, rfl, ?_, ?_, ?_⟩
    · rw [HTK.out]; exact hf7
    · exact (HK1.out.trans (Keeps.of_ext HA4.out (fun _ => False)) (fun _ h => h.elim)).trans h7 (fun k hk => by
        rcases HO1.out with e | e
        · exact .inl (e.symm.trans hk)
        · exact .inr (e k hk))
    · rcases ho7 with e | e
      · rw [e]; exact HO1.out
      · exact .inr e
  · have d1 : ((n : Int) == 258) = false := by simp; omega
    obtain ⟨sp, hsp⟩ : ∃ sp, findF lenT n = sp := ⟨_, rfl⟩
    obtain ⟨fl, hfl⟩ : ∃ fl, lenT.getD sp 0 = fl := ⟨_, rfl⟩
    have hlf := len_facts n hn (by omega)
    rw [hsp, hfl] at hlf
    have hAL := among_len n hn (by omega)
    rw [hsp, hfl] at hAL
    have HAL := Lib.hid hAL
    have HLF := Lib.hid hlf
    rw [hsp, hfl] at HT2
    clear hAL hlf hsp hfl
    obtain ⟨x8, hx8⟩ : ∃ x, n - fl = x := ⟨_, rfl⟩
    obtain ⟨y8, hy8⟩ : ∃ y, wideL sp = y := ⟨_, rfl⟩
    obtain ⟨s7, hs7⟩ : ∃ s, 257 + sp = s := ⟨_, rfl⟩
    obtain ⟨r5, w5, hs5⟩ : ∃ r5 w5, symT s7 = (r5, w5) := ⟨_, _, rfl⟩
    rw [hx8, hy8, hs7, hs5] at HT2
    have HX8 := Lib.hid hx8
    have HY8 := Lib.hid hy8
    have HS5 := Lib.hid hs5
    have hs7l : s7 < 286 := by have := HLF.out.1; omega
    have es7 : IntKind.i64.wrap (257 + (sp : Int)) = (s7 : Int) := by rw [IntKind.wrap_i64]; have := HLF.out.1; omega
    clear hx8 hy8 hs7 hs5
    go_enter Try.func60, Try.ntmps60
    go_wp2_with fail
    refine (among_atL w n 3 sp fl (by omega) hn HAL.out (by have := HLF.out; omega) (by have := HLF.out; omega) x8 y8 HX8.out HY8.out).mono ?_
    rintro e w2 ⟨rfl, hb2⟩
    have HN2 := Lib.hid (heap_alloc_new w2 (.cells #[.int .u32 0, .int .i64 0] 106))
    have HA2 := Lib.hid (hb2.trans ((ext_alloc w2 (.cells #[.int .u32 0, .int .i64 0] 106)).mono hb2.size))
    have HG2 := Lib.hid hb2.size
    clear hb2
    obtain ⟨w3, hw3⟩ : ∃ w3, w3 = w2.alloc (.cells #[.int .u32 0, .int .i64 0] 106) := ⟨_, rfl⟩
    obtain ⟨g8, hg8⟩ : ∃ g, g = w2.heap.size := ⟨_, rfl⟩
    rw [← hw3, ← hg8] at HN2
    rw [← hw3] at HA2
    rw [← hg8] at HG2
    have HW3 := Lib.hid hw3
    have HG8 := Lib.hid hg8
    clear hw3 hg8
    go_upto_region 4 with (with_reducible refine store_f rfl (.tmp 8) (.tmp 21) rfl rfl w2.heap.size (x8 : Int) (y8 : Int) rfl rfl _ (by rw [← HW3.out, ← HG8.out]; exact HN2.out) rfl ?_)
    rw [← HW3.out, ← HG8.out]
    have HR4 := Lib.hid (show (w3.setRow g8 #[.int .u32 (x8 : Int), .int .i64 (y8 : Int)]).heap[g8]? = some (.cells #[.int .u32 (x8 : Int), .int .i64 (y8 : Int)] 106) from setRow_heap _ _ _ _ _ _ HN2.out)
    have HA4 := Lib.hid (show Below w.heap.size w (w3.setRow g8 #[.int .u32 (x8 : Int), .int .i64 (y8 : Int)]) from below_setRow_new HA2.out HG2.out _)
    obtain ⟨w4, hw4⟩ : ∃ w4, w4 = w3.setRow g8 #[.int .u32 (x8 : Int), .int .i64 (y8 : Int)] := ⟨_, rfl⟩
    rw [← hw4] at HR4 HA4 ⊢
    clear hw4 HW3 HG8 HN2 HA2
    have HF4 := Lib.hid (HF.out.below HA4.out (Nat.le_refl _))
    have HV4 := Lib.hid (show ∀ k, vf.ownBlock = some k → ¬ k = g8 from fun k hk e => by have := (HF.out.lt k hk).2; have := HG2.out; omega)
    have HS4 := Lib.hid (show base ≤ w4.heap.size ∧ w.heap.size ≤ w4.heap.size from ⟨Nat.le_trans HB.out HA4.out.size, HA4.out.size⟩)
    have HD := Lib.hid (show FD 2 encF 106 base w.heap.size (Keeps (own vf) w4) vf l [((r5, w5) : Nat × Nat), (x8, y8)] #[.int .u32 (r5 : Int), .int .i64 (w5 : Int), .int .u32 (x8 : Int), .int .i64 (y8 : Int)] .p0 w4 from ⟨Keeps.refl _ _, HF4.out⟩)
    refine wp_region_script [(true, 0), (true, 1), (true, 2), (true, 3), (true, 4), (false, 5), (false, 6), (true, 7)] (FD 2 encF 106 base w.heap.size (Keeps (own vf) w4) vf l [((r5, w5) : Nat × Nat), (x8, y8)] #[.int .u32 (r5 : Int), .int .i64 (w5 : Int), .int .u32 (x8 : Int), .int .i64 (y8 : Int)]) .p0 (by kernel_rfl) (by kernel_rfl) (HD.out.step (fun _ _ => own_step) ⟨rfl, rfl, rfl, Nat.le_refl _, fun _ _ => rfl⟩) ?_
    refine Scr.quiet (A := ?AB1) (o := ?oB1) (fun s9 w9 w8 h9 hb9 => h9.step (fun _ _ => own_step) hb9) _ w4 HD.out ?eB1 ?wB1 22 ?dB1 (by simp) ?hB1 ?nB1
    case eB1 => simp only [List.getElem?_toArray, List.getElem?_cons_succ, List.getElem?_cons_zero]; exact rfl
    case wB1 => exact rfl
    case dB1 => exact rfl
    case hB1 =>
      intro s9 w9 h9
      go_big_quiet_op
      exact rfl
    refine Scr.quiet (A := ?AB2) (o := ?oB2) (fun s9 w9 w8 h9 hb9 => h9.step (fun _ _ => own_step) hb9) _ w4 HD.out ?eB2 ?wB2 23 ?dB2 (by simp) ?hB2 ?nB2
    case eB2 => simp only [List.getElem?_toArray, List.getElem?_cons_succ, List.getElem?_cons_zero]; exact rfl
    case wB2 => exact rfl
    case dB2 => exact rfl
    case hB2 =>
      intro s9 w9 h9
      go_big_quiet_op
      exact rfl
    refine Scr.quiet (A := ?AB3) (o := ?oB3) (fun s9 w9 w8 h9 hb9 => h9.step (fun _ _ => own_step) hb9) _ w4 HD.out ?eB3 ?wB3 24 ?dB3 (by simp) ?hB3 ?nB3
    case eB3 => simp only [List.getElem?_toArray, List.getElem?_cons_succ, List.getElem?_cons_zero]; exact rfl
    case wB3 => exact rfl
    case dB3 => exact rfl
    case hB3 =>
      intro s9 w9 h9
      go_big_quiet_op
      exact rfl
    refine Scr.quiet (A := ?AB4) (o := ?oB4) (fun s9 w9 w8 h9 hb9 => h9.step (fun _ _ => own_step) hb9) _ w4 HD.out ?eB4 ?wB4 25 ?dB4 (by simp) ?hB4 ?nB4
    case eB4 => simp only [List.getElem?_toArray, List.getElem?_cons_succ, List.getElem?_cons_zero]; exact rfl
    case wB4 => exact rfl
    case dB4 => exact rfl
    case hB4 =>
      intro s9 w9 h9
      have R9 := Lib.hid (qb (W := w9) (v := .agg #[.int .u32 (r5 : Int), .int .i64 (w5 : Int)]) (fun w2 hb => symbol_at w2 s7 (by omega) r5 w5 HS5.out))
      go_big_quiet_op
      apply Exists.intro
      refine ⟨fun _ => ?_, ?_⟩
      · with_reducible exact R9.out _ _
      · exact rfl
    refine Scr.quiet (A := ?AB5) (o := ?oB5) (fun s9 w9 w8 h9 hb9 => h9.step (fun _ _ => own_step) hb9) _ w4 HD.out ?eB5 ?wB5 26 ?dB5 (by simp) ?hB5 ?nB5
    case eB5 => simp only [List.getElem?_toArray, List.getElem?_cons_succ, List.getElem?_cons_zero]; exact rfl
    case wB5 => exact rfl
    case dB5 => exact rfl
    case hB5 =>
      intro s9 w9 h9
      obtain ⟨e0, e1⟩ := cells2 ((h9.j.block g8 (lt_of_heap HR4.out) (fun e => HV4.out _ e rfl)).trans HR4.out)
      go_big_quiet_op
      exact rfl
    refine Scr.app (ob := ?Bob) (oa := ?Boa) fields (fun _ _ => own_step) (fun _ _ h _ hg => own_grown h hg) (fun _ h => Nat.le_trans HS4.out.1 h.size) (fun _ h => Nat.le_trans HS4.out.2 h.size) rfl (by simp; omega) (by simp; omega) 2 rfl ?Beb ?Bwb ?Brb ?Bea ?Bga (.tmp 22) (.tmp 27) ?Boq ?Bos ?Box ?_
    case Beb => simp only [List.getElem?_toArray, List.getElem?_cons_succ, List.getElem?_cons_zero]; exact rfl
    case Bwb => exact rfl
    case Brb => exact fun w9 => build_twoI w9 _ _ _ _ _ _ (.tmp 25) (.tmp 26) rfl rfl rfl
    case Bea => simp only [List.getElem?_toArray, List.getElem?_cons_succ, List.getElem?_cons_zero]; exact rfl
    case Bga => exact rfl
    case Boq => exact rfl
    case Bos => exact fun _ => rfl
    case Box => exact fun _ => rfl
    intro gs v1
    simp only [Act.put, List.setIfInBounds_toArray, List.set_cons_succ, List.set_cons_zero]
    refine Scr.quiet (A := ?AB6) (o := ?oB6) (fun s9 w9 w8 h9 hb9 => h9.step (fun _ _ => own_step) hb9) _ w4 HD.out ?eB6 ?wB6 0 ?dB6 (by simp) ?hB6 ?nB6
    case eB6 => simp only [List.getElem?_toArray, List.getElem?_cons_succ, List.getElem?_cons_zero]; exact rfl
    case wB6 => exact rfl
    case dB6 => exact rfl
    case hB6 =>
      intro s9 w9 h9
      go_big_quiet_op
      exact rfl
    rintro W1 ⟨h7, hf7, ho7⟩
    obtain ⟨l1, hl1⟩ : ∃ l1, l1 = l ++ [((r5, w5) : Nat × Nat), (x8, y8)] := ⟨_, rfl⟩
    have HTK := Lib.hid (show l ++ tokT (.mat n d) = l1 ++ [((r7, 5) : Nat × Nat), (x9, y9)] from by rw [HT2.out, if_neg h258, hl1, List.append_assoc])
    have HLN := Lib.hid (show l1.length ≤ 1000002 from by rw [hl1]; simp; omega)
    rw [← hl1] at hf7
    have HF1 := Lib.hid hf7
    have HK1 := Lib.hid (show Keeps (own vf) w W1 from (Keeps.of_ext HA4.out (own vf)).trans h7 (fun k hk => .inl hk))
    have HO1 := Lib.hid ho7
    have HB1 := Lib.hid (Nat.le_trans HB.out HK1.out.size)
    clear hl1 h7 hf7 ho7 HF4 HV4 HS4 HD HR4 HA4 HG2
    go_wp2_with fail
    refine (among_atD W1 d 1 fd fin (by omega) (by omega) HAD.out (by have := HDF.out; omega) (by have := HDF.out; omega) x9 y9 HX9.out HY9.out).mono ?_
    rintro e W2 ⟨rfl, hb2⟩
    have HN2 := Lib.hid (heap_alloc_new W2 (.cells #[.int .u32 0, .int .i64 0] 106))
    have HA2 := Lib.hid (hb2.trans ((ext_alloc W2 (.cells #[.int .u32 0, .int .i64 0] 106)).mono hb2.size))
    have HG2 := Lib.hid hb2.size
    clear hb2
    obtain ⟨W3, hW3⟩ : ∃ W3, W3 = W2.alloc (.cells #[.int .u32 0, .int .i64 0] 106) := ⟨_, rfl⟩
    obtain ⟨g10, hg10⟩ : ∃ g, g = W2.heap.size := ⟨_, rfl⟩
    rw [← hW3, ← hg10] at HN2
    rw [← hW3] at HA2
    rw [← hg10] at HG2
    have HW3 := Lib.hid hW3
    have HG10 := Lib.hid hg10
    clear hW3 hg10
    go_upto_region 6 with (with_reducible refine store_f rfl (.tmp 10) (.tmp 33) rfl rfl W2.heap.size (x9 : Int) (y9 : Int) rfl rfl _ (by rw [← HW3.out, ← HG10.out]; exact HN2.out) rfl ?_)
    rw [← HW3.out, ← HG10.out]
    have HR4 := Lib.hid (show (W3.setRow g10 #[.int .u32 (x9 : Int), .int .i64 (y9 : Int)]).heap[g10]? = some (.cells #[.int .u32 (x9 : Int), .int .i64 (y9 : Int)] 106) from setRow_heap _ _ _ _ _ _ HN2.out)
    have HA4 := Lib.hid (show Below W1.heap.size W1 (W3.setRow g10 #[.int .u32 (x9 : Int), .int .i64 (y9 : Int)]) from below_setRow_new HA2.out HG2.out _)
    obtain ⟨W4, hW4⟩ : ∃ W4, W4 = W3.setRow g10 #[.int .u32 (x9 : Int), .int .i64 (y9 : Int)] := ⟨_, rfl⟩
    rw [← hW4] at HR4 HA4 ⊢
    clear hW4 HW3 HG10 HN2 HA2
    have HF4 := Lib.hid (HF1.out.below HA4.out (Nat.le_refl _))
    have HV4 := Lib.hid (show ∀ k, v1.ownBlock = some k → ¬ k = g10 from fun k hk e => by have := (HF1.out.lt k hk).2; have := HG2.out; omega)
    have HS4 := Lib.hid (show base ≤ W4.heap.size ∧ w.heap.size ≤ W4.heap.size from ⟨Nat.le_trans HB1.out HA4.out.size, Nat.le_trans HK1.out.size HA4.out.size⟩)
    have HD := Lib.hid (show FD 2 encF 106 base w.heap.size (Keeps (own v1) W4) v1 l1 [((r7, 5) : Nat × Nat), (x9, y9)] #[.int .u32 (r7 : Int), .int .i64 5, .int .u32 (x9 : Int), .int .i64 (y9 : Int)] .p0 W4 from ⟨Keeps.refl _ _, HF4.out⟩)
    refine wp_region_script [(true, 0), (true, 1), (true, 2), (true, 3), (false, 4), (false, 5), (true, 6)] (FD 2 encF 106 base w.heap.size (Keeps (own v1) W4) v1 l1 [((r7, 5) : Nat × Nat), (x9, y9)] #[.int .u32 (r7 : Int), .int .i64 5, .int .u32 (x9 : Int), .int .i64 (y9 : Int)]) .p0 (by kernel_rfl) (by kernel_rfl) (HD.out.step (fun _ _ => own_step) ⟨rfl, rfl, rfl, Nat.le_refl _, fun _ _ => rfl⟩) ?_
    refine Scr.quiet (A := ?AC1) (o := ?oC1) (fun s9 w9 w8 h9 hb9 => h9.step (fun _ _ => own_step) hb9) _ W4 HD.out ?eC1 ?wC1 34 ?dC1 (by simp) ?hC1 ?nC1
    case eC1 => simp only [List.getElem?_toArray, List.getElem?_cons_succ, List.getElem?_cons_zero]; exact rfl
    case wC1 => exact rfl
    case dC1 => exact rfl
    case hC1 =>
      intro s9 w9 h9
      go_big_quiet_op
      exact rfl
    refine Scr.quiet (A := ?AC2) (o := ?oC2) (fun s9 w9 w8 h9 hb9 => h9.step (fun _ _ => own_step) hb9) _ W4 HD.out ?eC2 ?wC2 35 ?dC2 (by simp) ?hC2 ?nC2
    case eC2 => simp only [List.getElem?_toArray, List.getElem?_cons_succ, List.getElem?_cons_zero]; exact rfl
    case wC2 => exact rfl
    case dC2 => exact rfl
    case hC2 =>
      intro s9 w9 h9
      go_big_quiet_op
      exact rfl
    refine Scr.quiet (A := ?AC3) (o := ?oC3) (fun s9 w9 w8 h9 hb9 => h9.step (fun _ _ => own_step) hb9) _ W4 HD.out ?eC3 ?wC3 36 ?dC3 (by simp) ?hC3 ?nC3
    case eC3 => simp only [List.getElem?_toArray, List.getElem?_cons_succ, List.getElem?_cons_zero]; exact rfl
    case wC3 => exact rfl
    case dC3 => exact rfl
    case hC3 =>
      intro s9 w9 h9
      have R9 := Lib.hid (qb (W := w9) (v := .agg #[.int .u32 (r7 : Int), .int .i64 5]) (fun w2 hb => turned_5 w2 fd (by have := HDF.out; omega) r7 HR7.out))
      go_big_quiet_op
      apply Exists.intro
      refine ⟨fun _ => ?_, ?_⟩
      · with_reducible exact R9.out _ _
      · exact rfl
    refine Scr.quiet (A := ?AC4) (o := ?oC4) (fun s9 w9 w8 h9 hb9 => h9.step (fun _ _ => own_step) hb9) _ W4 HD.out ?eC4 ?wC4 37 ?dC4 (by simp) ?hC4 ?nC4
    case eC4 => simp only [List.getElem?_toArray, List.getElem?_cons_succ, List.getElem?_cons_zero]; exact rfl
    case wC4 => exact rfl
    case dC4 => exact rfl
    case hC4 =>
      intro s9 w9 h9
      obtain ⟨e0, e1⟩ := cells2 ((h9.j.block g10 (lt_of_heap HR4.out) (fun e => HV4.out _ e rfl)).trans HR4.out)
      go_big_quiet_op
      exact rfl
    refine Scr.app (ob := ?Cob) (oa := ?Coa) fields (fun _ _ => own_step) (fun _ _ h _ hg => own_grown h hg) (fun _ h => Nat.le_trans HS4.out.1 h.size) (fun _ h => Nat.le_trans HS4.out.2 h.size) rfl (by have := HLN.out; simp; omega) (by have := HLN.out; simp; omega) 2 rfl ?Ceb ?Cwb ?Crb ?Cea ?Cga (.tmp 34) (.tmp 38) ?Coq ?Cos ?Cox ?_
    case Ceb => simp only [List.getElem?_toArray, List.getElem?_cons_succ, List.getElem?_cons_zero]; exact rfl
    case Cwb => exact rfl
    case Crb => exact fun w9 => build_twoI w9 _ _ _ _ _ _ (.tmp 36) (.tmp 37) rfl rfl rfl
    case Cea => simp only [List.getElem?_toArray, List.getElem?_cons_succ, List.getElem?_cons_zero]; exact rfl
    case Cga => exact rfl
    case Coq => exact rfl
    case Cos => exact fun _ => rfl
    case Cox => exact fun _ => rfl
    intro gs v2
    simp only [Act.put, List.setIfInBounds_toArray, List.set_cons_succ, List.set_cons_zero]
    refine Scr.quiet (A := ?AC5) (o := ?oC5) (fun s9 w9 w8 h9 hb9 => h9.step (fun _ _ => own_step) hb9) _ W4 HD.out ?eC5 ?wC5 6 ?dC5 (by simp) ?hC5 ?nC5
    case eC5 => simp only [List.getElem?_toArray, List.getElem?_cons_succ, List.getElem?_cons_zero]; exact rfl
    case wC5 => exact rfl
    case dC5 => exact rfl
    case hC5 =>
      intro s9 w9 h9
      go_big_quiet_op
      exact rfl
    rintro w7 ⟨h7, hf7, ho7⟩
    go_wp2_with fail
    go_ret
    refine ⟨v2, rfl, ?_, ?_, ?_⟩
    · rw [HTK.out]; exact hf7
    · exact (HK1.out.trans (Keeps.of_ext HA4.out (fun _ => False)) (fun _ h => h.elim)).trans h7 (fun k hk => by
        rcases HO1.out with e | e
        · exact .inl (e.symm.trans hk)
        · exact .inr (e k hk))
    · rcases ho7 with e | e
      · rw [e]; exact HO1.out
      · exact .inr e
end Go.Proofs.Ytighlefajekloaa.DefY
