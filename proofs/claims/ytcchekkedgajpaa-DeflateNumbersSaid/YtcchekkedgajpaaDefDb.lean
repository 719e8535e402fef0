/- Package lightwelllaw06: is, each, awake. -/
import Derived.Test.YtcchekkedgajpaaDefDa
import Derived.Test.YtcchekkedgajpaaDm
import Derived.Lib.ConvBytes
set_option linter.unusedVariables false
set_option linter.unusedSimpArgs false
namespace Go.Proofs.Ytcchekkedgajpaa.DefDb
open Go.RowKit Go.Sort BitsM Base Low BitsW BitsX BitsS MapA DefM DefN DefO DefP DefS DefT DefR DefU DefV DefW DefX DefY DefZ DefBa DefBb DefBc DefCa DefCb DefDa Qb Qt Qp Qy Rec
def bts (s : ByteArray) : List Nat := s.data.toList.map UInt8.toNat
theorem bts_len (s : ByteArray) : (bts s).length = s.size := by unfold bts; rw [List.length_map, Array.length_toList]; rfl
theorem nums_bytesWorld (w : World) (E : TypeId) (s : ByteArray) (hs : s.size ≤ maxLen) : Nums .u8 256 (Lib.bytesWorld w E s) (.slice (some ⟨w.heap.size, 0, none⟩) s.size (grownCap w s.size 0 E)) (bts s) ∧ Below w.heap.size w (Lib.bytesWorld w E s) := by
  refine ⟨⟨⟨_, _, by rw [bts_len], ?_, ?_, fun e => by simp at e⟩, ?_, fun _ => ⟨_, _, _, by rw [bts_len], ?_, ?_⟩⟩, ⟨?_, ?_, ?_, ?_, ?_⟩⟩
  · rw [bts_len]; exact grownCap_ge _ _ _ _
  · exact grownCap_le_maxLen _ _ _ _ hs
  · intro x hx
    unfold bts at hx
    rw [List.mem_map] at hx
    obtain ⟨y, -, rfl⟩ := hx
    exact y.toNat_lt
  · rw [Lib.bytesWorld_size]; omega
  · intro i hi
    rw [bts_len] at hi
    rw [Nat.zero_add, Lib.bytesWorld_cell w E s i hi]
    have h2 : i < s.data.toList.length := by rw [Array.length_toList]; exact hi
    have h3 : (bts s)[i]'(by rw [bts_len]; exact hi) = (s.data.toList[i]).toNat := List.getElem_map ..
    rw [h3, List.getD_eq_getElem?_getD, List.getElem?_eq_getElem h2]
    rfl
  · simp [Lib.bytesWorld, World.freeze, World.alloc, World.drew, -World.alloc_eq, -World.drew_eq]
  · simp [Lib.bytesWorld, World.freeze, World.alloc, World.drew, -World.alloc_eq, -World.drew_eq]
  · simp [Lib.bytesWorld, World.freeze, World.alloc, World.drew, -World.alloc_eq, -World.drew_eq]
  · rw [Lib.bytesWorld_size]; omega
  · exact fun k hk => Lib.bytesWorld_at_old w E s k hk
/-- a string's bytes, laid -/
theorem wpList_toBytes {P : Program} {w : World} {ops : Array Oper} {rest : List Oper} {o : Oper} {a : Act} {Q : Exit → Act → World → Prop} (hgd : o.guard = none) (S T E : TypeId) (x : Operand)
    (ho : o.op = .convert S T x) (hS : P.underlying S = some .string) (hT : P.underlying T = some (.slice E)) (hE : P.underlying E = some (.int .u8)) (s : ByteArray) (hs : s.size ≤ maxLen) (hx : a.eval x = .string s)
    (h : ∀ v w', Nums .u8 256 w' v (bts s) → Below w.heap.size w w' → wpList P ops Q rest (a.put o.dst v) w') : wpList P ops Q (o :: rest) a w := by
  refine wpList_plain hgd fun K hK => ?_
  have hrun := Lib.run_convert_string_bytes (P := P) w S T E s hS hT hE
  obtain ⟨h1, h2⟩ := nums_bytesWorld w E s hs
  unfold Oper.wp
  simp only [execOp, ho, hx]
  simp [hrun, Result.andThen]
  exact hK _ _ (h _ _ h1 h2)
set_option maxRecDepth 100000 in
theorem is_any (w : World) (s : ByteArray) (l : List Nat) (hs : bts s = l) (hl : l.length ≤ 32768) (v : Value) (m : List Nat) (hv : Nums .u8 256 w v m) :
    Calls Try.prog 29 #[.string s, v] w fun e w' => e = .returned (.bool (decide (wholeF l = m))) ∧ Below w.heap.size w w' := by
  have HV := Lib.hid hv
  have HS := Lib.hid hs
  have hsz : s.size ≤ maxLen := by rw [← bts_len, hs]; unfold maxLen; omega
  have HZ := Lib.hid hsz
  clear hv hs hsz
  go_enter Try.func29, Try.ntmps29
  go_wp2_with (first
    | (with_reducible (refine wpList_toBytes rfl 9 25 5 (.tmp 5) rfl Try.underlying9 Try.underlying25 Try.underlying5 s HZ.out rfl ?_); intro v1 w1 h1 hb1; have H1 := Lib.hid h1; have HB1 := Lib.hid hb1; have HV1 := Lib.hid (HV.out.below hb1 (Nat.le_refl _)); clear h1 hb1)
    | fail)
  have hw := whole_small w1 v1 (bts s) H1.out (by rw [HS.out]; exact hl)
  refine hw.mono ?_
  rintro e w2 ⟨x, rfl, hx, -, hb2⟩
  have HX := Lib.hid hx
  have HV2 := Lib.hid (HV1.out.below hb2 (Nat.le_refl _))
  have HB2 := Lib.hid (HB1.out.trans (hb2.mono HB1.out.size))
  clear hx hb2 hw HV1 HV H1 HB1
  go_wp2_with fail
  refine (sameBytes_any _ _ _ _ _ HX.out HV2.out).mono ?_
  rintro e w3 ⟨rfl, rfl⟩
  go_wp2_with fail
  go_ret
  exact ⟨by rw [HS.out]; rfl, HB2.out⟩
theorem each_snoc (i : Nat) : List.range (i + 1) = List.range i ++ [i] := List.range_succ
set_option maxRecDepth 100000 in
theorem each_any (w : World) : Calls Try.prog 28 #[] w fun e w' => ∃ v, e = .returned v ∧ Own .u8 256 5 w.heap.size w' v each ∧ Below w.heap.size w w' := by
  go_enter Try.func28, Try.ntmps28
  go_wp2_with (fail)
  go_loopw [1, 2] (fun v1 v2 wr => ∃ i : Nat, i ≤ 256 ∧ v2 = .int .i64 (i : Int) ∧ Own .u8 256 5 w.heap.size wr v1 (List.range i) ∧ Below w.heap.size w wr) (fun _ v2 _ => 256 - (intOf v2).toNat)
  case atStart => exact ⟨0, by omega, rfl, Own.nil _ _ _ _ _, Below.refl _ _⟩
  case round =>
    obtain ⟨i, hi, rfl, hown, hb⟩ := hrel
    have HB := Lib.hid hb
    have HO := Lib.hid hown
    clear hown hb
    by_cases h : i < 256
    · have d : decide ((i : Int) < 256) = true := decide_eq_true (by omega)
      have e3 : IntKind.u8.wrap (i : Int) = (i : Int) := by rw [IntKind.wrap_u8]; omega
      have HN1 := Lib.hid (nums_one .u8 256 5 wr i h)
      have HO2 := Lib.hid (HO.out.alloc (.cells #[.int .u8 (i : Int)] 5))
      have hbs : w.heap.size ≤ (wr.alloc (.cells #[.int .u8 (i : Int)] 5)).heap.size := by have := HB.out.size; simp; omega
      have hb1 : ((List.range i).length + [i].length) * 1 ≤ 140737488355328 := by simp; omega
      have hb2 : (List.range i).length + [i].length ≤ 140737488355328 := by simp; omega
      have HL1 := Lib.hid hb1
      have HL2 := Lib.hid hb2
      clear hb1 hb2
      go_wp2_with (at_builtin; refine wpList_append_nums_at rfl (.tmp 7) (.tmp 10) 25 5 rfl .u8 256 1 w.heap.size u8s u1 _ rfl HO2.out _ [i] rfl HN1.out HL1.out HL2.out hbs ?_; intro v2 w2 hown2 hgr2 hfr2; have HO3 := Lib.hid hown2; have HB3 := Lib.hid (below_grown (HB.out.alloc HB.out.size _) HO2.out hgr2 (Nat.le_refl _) hbs); clear hown2 hgr2 hfr2)
      refine ⟨⟨i + 1, by omega, rfl, by rw [each_snoc]; exact HO3.out, HB3.out⟩, by simp only [intOf]; omega⟩
    · have d : decide ((i : Int) < 256) = false := decide_eq_false (by omega)
      obtain rfl : i = 256 := by omega
      go_wp2_with fail
      go_ret
      exact ⟨_, rfl, HO.out, HB.out⟩
theorem build2 (w : World) : (Instr.buildSlice 25 2 #[(0, .int .u8 3), (1, .int .u8 0)]).run Try.prog w = .ok (.slice (some ⟨w.heap.size, 0, none⟩) 2 2) (w.alloc (.cells #[.int .u8 3, .int .u8 0] 5)) := by kernel_rfl
theorem build3 (w : World) : (Instr.buildSlice 25 3 #[(0, .int .u8 75), (1, .int .u8 4), (2, .int .u8 0)]).run Try.prog w = .ok (.slice (some ⟨w.heap.size, 0, none⟩) 3 3) (w.alloc (.cells #[.int .u8 75, .int .u8 4, .int .u8 0] 5)) := by kernel_rfl
theorem build4 (w : World) : (Instr.buildSlice 25 4 #[(0, .int .u8 75), (1, .int .u8 132), (2, .int .u8 3), (3, .int .u8 0)]).run Try.prog w = .ok (.slice (some ⟨w.heap.size, 0, none⟩) 4 4) (w.alloc (.cells #[.int .u8 75, .int .u8 132, .int .u8 3, .int .u8 0] 5)) := by kernel_rfl
theorem build5 (w : World) : (Instr.buildSlice 25 5 #[(0, .int .u8 1), (1, .int .u8 0), (2, .int .u8 1), (3, .int .u8 255), (4, .int .u8 254)]).run Try.prog w = .ok (.slice (some ⟨w.heap.size, 0, none⟩) 5 5) (w.alloc (.cells #[.int .u8 1, .int .u8 0, .int .u8 1, .int .u8 255, .int .u8 254] 5)) := by kernel_rfl

/-- what stands in one slot -/
def AD (W : World) (x : Value) (l : List Nat) (σ : Value × List Nat) (w9 : World) : Prop := Below W.heap.size W w9 ∧ Nums .u8 256 w9 x l ∧ Nums .u8 256 w9 σ.1 σ.2
theorem AD.step {W : World} {x : Value} {l : List Nat} {σ : Value × List Nat} {w9 w' : World} (h : AD W x l σ w9) (hb : Below w9.heap.size w9 w') : AD W x l σ w' := ⟨h.1.trans (hb.mono h.1.size), h.2.1.below hb (Nat.le_refl _), h.2.2.below hb (Nat.le_refl _)⟩
set_option maxRecDepth 100000 in
set_option maxHeartbeats 1000000 in
theorem awake_any (w : World) : Calls Try.prog 14 #[] w fun e w' => e = .returned (.bool true) ∧ Below w.heap.size w w' := by
  go_enter Try.func14, Try.ntmps14
  go_wp2_with fail
  refine (each_any w).mono ?_
  rintro e w1 ⟨v1, rfl, ho1, hb1⟩
  have HO1 := Lib.hid ho1
  have HB1 := Lib.hid hb1
  clear ho1 hb1
  go_wp2_with fail
  refine (whole_small w1 v1 each HO1.out.nums (by decide)).mono ?_
  rintro e w2 ⟨x, rfl, hx, hxs, hb2⟩
  obtain ⟨ax, nx, cx, rfl⟩ := hxs
  have hnx : nx = 261 := by
    obtain ⟨a, c, e, -⟩ := hx.shape
    simp only [Value.slice.injEq] at e
    rw [e.2.1, whole_each.1]
  subst hnx
  have hax : ∃ b off, ax = some ⟨b, off, none⟩ := by
    obtain ⟨b, off, c, e, -⟩ := hx.cells (by intro e; have := whole_each.1; rw [e] at this; cases this)
    simp only [Value.slice.injEq] at e
    exact ⟨b, off, e.1⟩
  obtain ⟨bx, ox, rfl⟩ := hax
  have hcx : (261 : Nat) ≤ cx := by
    obtain ⟨a, c, e, h1, -⟩ := hx.shape
    rw [whole_each.1] at h1 e
    simp only [Value.slice.injEq] at e
    rw [e.2.2]; exact h1
  have HX := Lib.hid hx
  have HB2 := Lib.hid (HB1.out.trans (hb2.mono HB1.out.size))
  have HA := Lib.hid (show AD w2 (.slice (some ⟨bx, ox, none⟩) 261 cx) (wholeF each) (.slice none 0 0, []) w2 from ⟨Below.refl _ _, hx, Nums.nil _ _ _⟩)
  have hc5 : ¬ cx = 5 := by omega
  have hc5b : (5 : Nat) ≤ cx := by omega
  clear hx hb2 HO1 HB1
  go_upto_region 2 with (fail)
  refine wp_region_script [(false, 0), (false, 1), (true, 2), (false, 3), (false, 4), (true, 5), (true, 6), (false, 7), (false, 8), (true, 9), (true, 10), (true, 11), (true, 12), (true, 13), (true, 14), (true, 15), (true, 16), (true, 17), (false, 18), (false, 19), (true, 20), (true, 21), (true, 22), (true, 23), (false, 24), (false, 25), (true, 26), (true, 27)] (AD w2 (.slice (some ⟨bx, ox, none⟩) 261 cx) (wholeF each)) (.slice none 0 0, []) (by kernel_rfl) (by kernel_rfl) (AD.step HA.out ⟨rfl, rfl, rfl, Nat.le_refl _, fun _ _ => rfl⟩) ?_
  refine Scr.write (o := ?wo100) (fun u s9 => ∃ gs, u = .slice (some ⟨gs, 0, none⟩) 2 2 ∧ s9 = (.slice (some ⟨gs, 0, none⟩) 2 2, [3, 0])) ?we100 ?ww100 ?wr100 ?_
  case we100 => simp only [List.getElem?_toArray, List.getElem?_cons_succ, List.getElem?_cons_zero]; exact rfl
  case ww100 => exact rfl
  case wr100 =>
    intro w9 h9
    have h8 := AD.step h9 (ext_alloc w9 (.cells #[.int .u8 3, .int .u8 0] 5))
    refine .inl ⟨_, _, (.slice (some ⟨w9.heap.size, 0, none⟩) 2 2, [3, 0]), ?_, ⟨_, rfl, rfl⟩, h8.1, h8.2.1, nums_lit .u8 256 5 w9 [3, 0] (by simp [maxLen]) (by decide) _ rfl 2 rfl⟩
    simp [execOp, Act.eval, Sem.run_bind, build2 w9, Result.andThen_ok, Sem.run_pure]
  rintro v10 s10 ⟨gs, rfl, rfl⟩
  simp only [Act.put, List.setIfInBounds_toArray, List.set_cons_succ, List.set_cons_zero]
  refine Scr.call (o := ?co201) 29 #[.string { data := #[] }, .slice (some ⟨gs, 0, none⟩) 2 2] (fun u s9 => u = .bool true ∧ s9 = (.slice none 0 0, [])) ?ce201 ?cw201 ?cr201 ?cc201 ?_
  case ce201 => simp only [List.getElem?_toArray, List.getElem?_cons_succ, List.getElem?_cons_zero]; exact rfl
  case cw201 => exact rfl
  case cr201 => intro w9; simp [execOp, Act.eval, resolve, go_sem]
  case cc201 =>
    intro w9 h9
    refine (is_any w9 _ [] rfl (by decide) _ _ h9.2.2).mono ?_
    rintro e w8 ⟨rfl, hb⟩
    rw [whole_0]
    have h8 := AD.step h9 hb
    exact ⟨_, _, congrArg (fun b => Ending.returned (.bool b)) (decide_eq_true rfl), ⟨rfl, rfl⟩, h8.1, h8.2.1, Nums.nil _ _ _⟩
  rintro v10 s10 ⟨rfl, rfl⟩
  simp only [Act.put, List.setIfInBounds_toArray, List.set_cons_succ, List.set_cons_zero]
  refine Scr.quiet (A := ?A1) (o := ?o1) (fun s9 w9 w8 h9 hb9 => AD.step h9 hb9) _ w2 HA.out ?e1 ?w1 6 ?d1 (by simp) ?h1 ?n1
  case e1 => simp only [List.getElem?_toArray, List.getElem?_cons_succ, List.getElem?_cons_zero]; exact rfl
  case w1 => exact rfl
  case d1 => exact rfl
  case h1 =>
    intro s9 w9 h9
    go_big_quiet_op
    exact rfl
  refine Scr.write (o := ?wo103) (fun u s9 => ∃ gs, u = .slice (some ⟨gs, 0, none⟩) 3 3 ∧ s9 = (.slice (some ⟨gs, 0, none⟩) 3 3, [75, 4, 0])) ?we103 ?ww103 ?wr103 ?_
  case we103 => simp only [List.getElem?_toArray, List.getElem?_cons_succ, List.getElem?_cons_zero]; exact rfl
  case ww103 => exact rfl
  case wr103 =>
    intro w9 h9
    have h8 := AD.step h9 (ext_alloc w9 (.cells #[.int .u8 75, .int .u8 4, .int .u8 0] 5))
    refine .inl ⟨_, _, (.slice (some ⟨w9.heap.size, 0, none⟩) 3 3, [75, 4, 0]), ?_, ⟨_, rfl, rfl⟩, h8.1, h8.2.1, nums_lit .u8 256 5 w9 [75, 4, 0] (by simp [maxLen]) (by decide) _ rfl 3 rfl⟩
    simp [execOp, Act.eval, Sem.run_bind, build3 w9, Result.andThen_ok, Sem.run_pure]
  rintro v10 s10 ⟨gs, rfl, rfl⟩
  simp only [Act.put, List.setIfInBounds_toArray, List.set_cons_succ, List.set_cons_zero]
  refine Scr.call (o := ?co204) 29 #[.string { data := #[97] }, .slice (some ⟨gs, 0, none⟩) 3 3] (fun u s9 => u = .bool true ∧ s9 = (.slice none 0 0, [])) ?ce204 ?cw204 ?cr204 ?cc204 ?_
  case ce204 => simp only [List.getElem?_toArray, List.getElem?_cons_succ, List.getElem?_cons_zero]; exact rfl
  case cw204 => exact rfl
  case cr204 => intro w9; simp [execOp, Act.eval, resolve, go_sem]
  case cc204 =>
    intro w9 h9
    refine (is_any w9 _ [97] rfl (by decide) _ _ h9.2.2).mono ?_
    rintro e w8 ⟨rfl, hb⟩
    rw [whole_a]
    have h8 := AD.step h9 hb
    exact ⟨_, _, congrArg (fun b => Ending.returned (.bool b)) (decide_eq_true rfl), ⟨rfl, rfl⟩, h8.1, h8.2.1, Nums.nil _ _ _⟩
  rintro v10 s10 ⟨rfl, rfl⟩
  simp only [Act.put, List.setIfInBounds_toArray, List.set_cons_succ, List.set_cons_zero]
  refine Scr.quiet (A := ?A2) (o := ?o2) (fun s9 w9 w8 h9 hb9 => AD.step h9 hb9) _ w2 HA.out ?e2 ?w2 9 ?d2 (by simp) ?h2 ?n2
  case e2 => simp only [List.getElem?_toArray, List.getElem?_cons_succ, List.getElem?_cons_zero]; exact rfl
  case w2 => exact rfl
  case d2 => exact rfl
  case h2 =>
    intro s9 w9 h9
    go_big_quiet_op
    exact rfl
  refine Scr.quiet (A := ?A3) (o := ?o3) (fun s9 w9 w8 h9 hb9 => AD.step h9 hb9) _ w2 HA.out ?e3 ?w3 10 ?d3 (by simp) ?h3 ?n3
  case e3 => simp only [List.getElem?_toArray, List.getElem?_cons_succ, List.getElem?_cons_zero]; exact rfl
  case w3 => exact rfl
  case d3 => exact rfl
  case h3 =>
    intro s9 w9 h9
    go_big_quiet_op
    exact rfl
  refine Scr.write (o := ?wo107) (fun u s9 => ∃ gs, u = .slice (some ⟨gs, 0, none⟩) 4 4 ∧ s9 = (.slice (some ⟨gs, 0, none⟩) 4 4, [75, 132, 3, 0])) ?we107 ?ww107 ?wr107 ?_
  case we107 => simp only [List.getElem?_toArray, List.getElem?_cons_succ, List.getElem?_cons_zero]; exact rfl
  case ww107 => exact rfl
  case wr107 =>
    intro w9 h9
    have h8 := AD.step h9 (ext_alloc w9 (.cells #[.int .u8 75, .int .u8 132, .int .u8 3, .int .u8 0] 5))
    refine .inl ⟨_, _, (.slice (some ⟨w9.heap.size, 0, none⟩) 4 4, [75, 132, 3, 0]), ?_, ⟨_, rfl, rfl⟩, h8.1, h8.2.1, nums_lit .u8 256 5 w9 [75, 132, 3, 0] (by simp [maxLen]) (by decide) _ rfl 4 rfl⟩
    simp [execOp, Act.eval, Sem.run_bind, build4 w9, Result.andThen_ok, Sem.run_pure]
  rintro v10 s10 ⟨gs, rfl, rfl⟩
  simp only [Act.put, List.setIfInBounds_toArray, List.set_cons_succ, List.set_cons_zero]
  refine Scr.call (o := ?co208) 29 #[.string { data := #[97, 97, 97, 97, 97, 97, 97, 97, 97, 97] }, .slice (some ⟨gs, 0, none⟩) 4 4] (fun u s9 => u = .bool true ∧ s9 = (.slice none 0 0, [])) ?ce208 ?cw208 ?cr208 ?cc208 ?_
  case ce208 => simp only [List.getElem?_toArray, List.getElem?_cons_succ, List.getElem?_cons_zero]; exact rfl
  case cw208 => exact rfl
  case cr208 => intro w9; simp [execOp, Act.eval, resolve, go_sem]
  case cc208 =>
    intro w9 h9
    refine (is_any w9 _ (List.replicate 10 97) rfl (by decide) _ _ h9.2.2).mono ?_
    rintro e w8 ⟨rfl, hb⟩
    rw [whole_a10]
    have h8 := AD.step h9 hb
    exact ⟨_, _, congrArg (fun b => Ending.returned (.bool b)) (decide_eq_true rfl), ⟨rfl, rfl⟩, h8.1, h8.2.1, Nums.nil _ _ _⟩
  rintro v10 s10 ⟨rfl, rfl⟩
  simp only [Act.put, List.setIfInBounds_toArray, List.set_cons_succ, List.set_cons_zero]
  refine Scr.quiet (A := ?A4) (o := ?o4) (fun s9 w9 w8 h9 hb9 => AD.step h9 hb9) _ w2 HA.out ?e4 ?w4 13 ?d4 (by simp) ?h4 ?n4
  case e4 => simp only [List.getElem?_toArray, List.getElem?_cons_succ, List.getElem?_cons_zero]; exact rfl
  case w4 => exact rfl
  case d4 => exact rfl
  case h4 =>
    intro s9 w9 h9
    go_big_quiet_op
    exact rfl
  refine Scr.quiet (A := ?A5) (o := ?o5) (fun s9 w9 w8 h9 hb9 => AD.step h9 hb9) _ w2 HA.out ?e5 ?w5 14 ?d5 (by simp) ?h5 ?n5
  case e5 => simp only [List.getElem?_toArray, List.getElem?_cons_succ, List.getElem?_cons_zero]; exact rfl
  case w5 => exact rfl
  case d5 => exact rfl
  case h5 =>
    intro s9 w9 h9
    go_big_quiet_op
    exact rfl
  refine Scr.quiet (A := ?A6) (o := ?o6) (fun s9 w9 w8 h9 hb9 => AD.step h9 hb9) _ w2 HA.out ?e6 ?w6 15 ?d6 (by simp) ?h6 ?n6
  case e6 => simp only [List.getElem?_toArray, List.getElem?_cons_succ, List.getElem?_cons_zero]; exact rfl
  case w6 => exact rfl
  case d6 => exact rfl
  case h6 =>
    intro s9 w9 h9
    go_big_quiet_op
    exact rfl
  refine Scr.quiet (A := ?A7) (o := ?o7) (fun s9 w9 w8 h9 hb9 => AD.step h9 hb9) _ w2 HA.out ?e7 ?w7 16 ?d7 (by simp) ?h7 ?n7
  case e7 => simp only [List.getElem?_toArray, List.getElem?_cons_succ, List.getElem?_cons_zero]; exact rfl
  case w7 => exact rfl
  case d7 => exact rfl
  case h7 =>
    intro s9 w9 h9
    go_big_quiet_op
    exact rfl
  refine Scr.quiet (A := ?A8) (o := ?o8) (fun s9 w9 w8 h9 hb9 => AD.step h9 hb9) _ w2 HA.out ?e8 ?w8 17 ?d8 (by simp) ?h8 ?n8
  case e8 => simp only [List.getElem?_toArray, List.getElem?_cons_succ, List.getElem?_cons_zero]; exact rfl
  case w8 => exact rfl
  case d8 => exact rfl
  case h8 =>
    intro s9 w9 h9
    go_big_quiet_op
    exact rfl
  refine Scr.quiet (A := ?A9) (o := ?o9) (fun s9 w9 w8 h9 hb9 => AD.step h9 hb9) _ w2 HA.out ?e9 ?w9 18 ?d9 (by simp) ?h9 ?n9
  case e9 => simp only [List.getElem?_toArray, List.getElem?_cons_succ, List.getElem?_cons_zero]; exact rfl
  case w9 => exact rfl
  case d9 => exact rfl
  case h9 =>
    intro s9 w9 h9
    go_big_quiet_op
    exact rfl
  refine Scr.quiet (A := ?A10) (o := ?o10) (fun s9 w9 w8 h9 hb9 => AD.step h9 hb9) _ w2 HA.out ?e10 ?w10 19 ?d10 (by simp) ?h10 ?n10
  case e10 => simp only [List.getElem?_toArray, List.getElem?_cons_succ, List.getElem?_cons_zero]; exact rfl
  case w10 => exact rfl
  case d10 => exact rfl
  case h10 =>
    intro s9 w9 h9
    go_big_quiet_op
    exact rfl
  refine Scr.quiet (A := ?A11) (o := ?o11) (fun s9 w9 w8 h9 hb9 => AD.step h9 hb9) _ w2 HA.out ?e11 ?w11 20 ?d11 (by simp) ?h11 ?n11
  case e11 => simp only [List.getElem?_toArray, List.getElem?_cons_succ, List.getElem?_cons_zero]; exact rfl
  case w11 => exact rfl
  case d11 => exact rfl
  case h11 =>
    intro s9 w9 h9
    go_big_quiet_op
    exact rfl
  refine Scr.quiet (A := ?A12) (o := ?o12) (fun s9 w9 w8 h9 hb9 => AD.step h9 hb9) _ w2 HA.out ?e12 ?w12 21 ?d12 (by simp) ?h12 ?n12
  case e12 => simp only [List.getElem?_toArray, List.getElem?_cons_succ, List.getElem?_cons_zero]; exact rfl
  case w12 => exact rfl
  case d12 => exact rfl
  case h12 =>
    intro s9 w9 h9
    go_big_quiet_op
    exact rfl
  refine Scr.write (o := ?wo118) (fun u s9 => ∃ gs, u = .slice (some ⟨gs, 0, none⟩) 5 5 ∧ s9 = (.slice (some ⟨gs, 0, none⟩) 5 5, [1, 0, 1, 255, 254])) ?we118 ?ww118 ?wr118 ?_
  case we118 => simp only [List.getElem?_toArray, List.getElem?_cons_succ, List.getElem?_cons_zero]; exact rfl
  case ww118 => exact rfl
  case wr118 =>
    intro w9 h9
    have h8 := AD.step h9 (ext_alloc w9 (.cells #[.int .u8 1, .int .u8 0, .int .u8 1, .int .u8 255, .int .u8 254] 5))
    refine .inl ⟨_, _, (.slice (some ⟨w9.heap.size, 0, none⟩) 5 5, [1, 0, 1, 255, 254]), ?_, ⟨_, rfl, rfl⟩, h8.1, h8.2.1, nums_lit .u8 256 5 w9 [1, 0, 1, 255, 254] (by simp [maxLen]) (by decide) _ rfl 5 rfl⟩
    simp [execOp, Act.eval, Sem.run_bind, build5 w9, Result.andThen_ok, Sem.run_pure]
  rintro v10 s10 ⟨gs, rfl, rfl⟩
  simp only [Act.put, List.setIfInBounds_toArray, List.set_cons_succ, List.set_cons_zero]
  refine Scr.call (o := ?co219) 11 #[.slice (some ⟨bx, ox, none⟩) 5 cx, .slice (some ⟨gs, 0, none⟩) 5 5] (fun u s9 => u = .bool true ∧ s9 = (.slice none 0 0, [])) ?ce219 ?cw219 ?cr219 ?cc219 ?_
  case ce219 => simp only [List.getElem?_toArray, List.getElem?_cons_succ, List.getElem?_cons_zero]; exact rfl
  case cw219 => exact rfl
  case cr219 => intro w9; simp [execOp, Act.eval, resolve, go_sem]
  case cc219 =>
    intro w9 h9
    have hn := h9.2.1.take 5 (by omega) (by rw [whole_each.1]) (by simp)
    rw [whole_each.2.1] at hn
    refine (sameBytes_any _ _ _ _ _ hn h9.2.2).mono ?_
    rintro e w8 ⟨rfl, rfl⟩
    exact ⟨_, _, congrArg (fun b => Ending.returned (.bool b)) (decide_eq_true rfl), ⟨rfl, rfl⟩, h9.1, h9.2.1, Nums.nil _ _ _⟩
  rintro v10 s10 ⟨rfl, rfl⟩
  simp only [Act.put, List.setIfInBounds_toArray, List.set_cons_succ, List.set_cons_zero]
  refine Scr.quiet (A := ?A13) (o := ?o13) (fun s9 w9 w8 h9 hb9 => AD.step h9 hb9) _ w2 HA.out ?e13 ?w13 24 ?d13 (by simp) ?h13 ?n13
  case e13 => simp only [List.getElem?_toArray, List.getElem?_cons_succ, List.getElem?_cons_zero]; exact rfl
  case w13 => exact rfl
  case d13 => exact rfl
  case h13 =>
    intro s9 w9 h9
    go_big_quiet_op
    exact rfl
  refine Scr.quiet (A := ?A14) (o := ?o14) (fun s9 w9 w8 h9 hb9 => AD.step h9 hb9) _ w2 HA.out ?e14 ?w14 25 ?d14 (by simp) ?h14 ?n14
  case e14 => simp only [List.getElem?_toArray, List.getElem?_cons_succ, List.getElem?_cons_zero]; exact rfl
  case w14 => exact rfl
  case d14 => exact rfl
  case h14 =>
    intro s9 w9 h9
    go_big_quiet_op
    exact rfl
  refine Scr.quiet (A := ?A15) (o := ?o15) (fun s9 w9 w8 h9 hb9 => AD.step h9 hb9) _ w2 HA.out ?e15 ?w15 26 ?d15 (by simp) ?h15 ?n15
  case e15 => simp only [List.getElem?_toArray, List.getElem?_cons_succ, List.getElem?_cons_zero]; exact rfl
  case w15 => exact rfl
  case d15 => exact rfl
  case h15 =>
    intro s9 w9 h9
    go_big_quiet_op
    exact rfl
  refine Scr.quiet (A := ?A16) (o := ?o16) (fun s9 w9 w8 h9 hb9 => AD.step h9 hb9) _ w2 HA.out ?e16 ?w16 27 ?d16 (by simp) ?h16 ?n16
  case e16 => simp only [List.getElem?_toArray, List.getElem?_cons_succ, List.getElem?_cons_zero]; exact rfl
  case w16 => exact rfl
  case d16 => exact rfl
  case h16 =>
    intro s9 w9 h9
    go_big_quiet_op
    exact rfl
  refine Scr.call (o := ?co224) 28 #[] (fun u s9 => s9 = (u, each)) ?ce224 ?cw224 ?cr224 ?cc224 ?_
  case ce224 => simp only [List.getElem?_toArray, List.getElem?_cons_succ, List.getElem?_cons_zero]; exact rfl
  case cw224 => exact rfl
  case cr224 => intro w9; simp [execOp, Act.eval, resolve, go_sem]
  case cc224 =>
    intro w9 h9
    refine (each_any w9).mono ?_
    rintro e w8 ⟨u, rfl, ho, hb⟩
    have h8 := AD.step h9 hb
    exact ⟨u, _, rfl, rfl, h8.1, h8.2.1, ho.nums⟩
  rintro v10 s10 rfl
  simp only [Act.put, List.setIfInBounds_toArray, List.set_cons_succ, List.set_cons_zero]
  refine Scr.call (o := ?co225) 11 #[.slice (some ⟨bx, ox + 5, none⟩) 256 (cx - 5), v10] (fun u s9 => u = .bool true ∧ s9 = (.slice none 0 0, [])) ?ce225 ?cw225 ?cr225 ?cc225 ?_
  case ce225 => simp only [List.getElem?_toArray, List.getElem?_cons_succ, List.getElem?_cons_zero]; exact rfl
  case cw225 => exact rfl
  case cr225 => intro w9; simp [execOp, Act.eval, resolve, go_sem]
  case cc225 =>
    intro w9 h9
    have hn := h9.2.1.drop 5 (by omega)
    rw [whole_each.2.2] at hn
    refine (sameBytes_any _ _ _ _ _ hn h9.2.2).mono ?_
    rintro e w8 ⟨rfl, rfl⟩
    exact ⟨_, _, congrArg (fun b => Ending.returned (.bool b)) (decide_eq_true rfl), ⟨rfl, rfl⟩, h9.1, h9.2.1, Nums.nil _ _ _⟩
  rintro v10 s10 ⟨rfl, rfl⟩
  simp only [Act.put, List.setIfInBounds_toArray, List.set_cons_succ, List.set_cons_zero]
  refine Scr.quiet (A := ?A17) (o := ?o17) (fun s9 w9 w8 h9 hb9 => AD.step h9 hb9) _ w2 HA.out ?e17 ?w17 30 ?d17 (by simp) ?h17 ?n17
  case e17 => simp only [List.getElem?_toArray, List.getElem?_cons_succ, List.getElem?_cons_zero]; exact rfl
  case w17 => exact rfl
  case d17 => exact rfl
  case h17 =>
    intro s9 w9 h9
    go_big_quiet_op
    exact rfl
  refine Scr.quiet (A := ?A18) (o := ?o18) (fun s9 w9 w8 h9 hb9 => AD.step h9 hb9) _ w2 HA.out ?e18 ?w18 0 ?d18 (by simp) ?h18 ?n18
  case e18 => simp only [List.getElem?_toArray, List.getElem?_cons_succ, List.getElem?_cons_zero]; exact rfl
  case w18 => exact rfl
  case d18 => exact rfl
  case h18 =>
    intro s9 w9 h9
    go_big_quiet_op
    exact rfl
  rintro W3 h3
  go_wp2_with fail
  go_ret
  exact ⟨rfl, HB2.out.trans (h3.1.mono HB2.out.size)⟩
end Go.Proofs.Ytcchekkedgajpaa.DefDb
