import Derived.Test.YtighlefajekloaaPngD
import Derived.Test.YtighlefajekloaaPngN
import Derived.Test.YtighlefajekloaaNumAp
import Derived.Lib.SlBytesConst
import Derived.Test.YtighlefajekloaaQu
import Derived.Laws.OwnMore
/- Package png: four, chunk, head. -/
set_option linter.unusedVariables false
set_option linter.unusedSimpArgs false
namespace Go.Proofs.Ytighlefajekloaa.PngE
open Go.RowKit Go.Sort Base Low NumSl DefDa DefDb NumAp SumsM SumsW PngD Qb Qt
theorem four_row (n : Nat) (hn : n < 4294967296) : (#[.int .u8 ((n : Int) / 16777216), .int .u8 ((n : Int) / 65536 % 256), .int .u8 ((n : Int) / 256 % 256), .int .u8 ((n : Int) % 256)] : Array Value).toList = numCells .u8 (fourL n) := by
  have e1 : (n : Int) / 16777216 = ((n / 16777216 % 256 : Nat) : Int) := by omega
  have e2 : (n : Int) / 65536 % 256 = ((n / 65536 % 256 : Nat) : Int) := by omega
  have e3 : (n : Int) / 256 % 256 = ((n / 256 % 256 : Nat) : Int) := by omega
  have e4 : (n : Int) % 256 = ((n % 256 : Nat) : Int) := by omega
  rw [e1, e2, e3, e4]; rfl
theorem fourL_len (n : Nat) : (fourL n).length = 4 := rfl
set_option maxRecDepth 100000 in
set_option maxHeartbeats 1000000 in
theorem four_any (base : Nat) (w : World) (v : Value) (l : List Nat) (n : Nat) (h : Ap .u8 256 5 base w v l) (hn : n < 4294967296) (hl : l.length ≤ 2000000) (hbase : base ≤ w.heap.size) :
    Calls Try.prog 34 #[v, .int .u32 (n : Int)] w fun e w' => ∃ y, e = .returned y ∧ Own .u8 256 5 base w' y (l ++ fourL n) ∧ Keeps (fun k => v.ownBlock = some k) w w' ∧ ∀ k, y.ownBlock = some k → v.ownBlock = some k ∨ w.heap.size ≤ k := by
  obtain ⟨a, c, rfl, -, -⟩ := h.nums.open_
  have hx := ext_alloc w (.cells #[.int .u8 ((n : Int) / 16777216), .int .u8 ((n : Int) / 65536 % 256), .int .u8 ((n : Int) / 256 % 256), .int .u8 ((n : Int) % 256)] 5)
  have HN := Lib.hid (nums_blk .u8 256 (heap_alloc_new w (.cells #[.int .u8 ((n : Int) / 16777216), .int .u8 ((n : Int) / 65536 % 256), .int .u8 ((n : Int) / 256 % 256), .int .u8 ((n : Int) % 256)] 5)) (fourL n) (by rw [fourL_len]; unfold maxLen; omega) (fourL_lt n) (four_row n hn) 4 rfl)
  have HA := Lib.hid (h.below hx)
  have HX := Lib.hid hx
  have hbs := Nat.le_trans hbase hx.size
  have HL := Lib.hid (show (l.length + (fourL n).length) * 1 ≤ 140737488355328 by rw [fourL_len]; omega)
  have HL2 := Lib.hid (show l.length + (fourL n).length ≤ 140737488355328 by rw [fourL_len]; omega)
  clear hx h
  go_enter Try.func34, Try.ntmps34
  go_wp2_with (at_builtin; refine wpList_append_ap2 rfl (.tmp 5) (.tmp 17) 33 5 rfl .u8 256 1 base u8s (.slice a l.length c) l rfl HA.out _ (fourL n) (by intro e; cases e) rfl HN.out HL.out HL2.out hbs ?_; intro v4 w4 ho4 hk4 hf4; have HO4 := Lib.hid ho4; have HK4 := Lib.hid hk4; have HF4 := Lib.hid hf4; clear ho4 hk4 hf4)
  go_ret
  exact ⟨v4, rfl, HO4.out, ((Keeps.of_ext HX.out (fun _ => False)).mono (fun _ h => h.elim)).trans HK4.out (fun k hk => .inl hk), fun k hk => (HF4.out k hk).imp id (fun h => Nat.le_trans HX.out.size h)⟩
theorem crc_lt (l : List Nat) : crc 0 l < 4294967296 := by
  unfold crc
  split <;> omega
/-- a chunk: its length, its kind, its body, its sum -/
def chunkL (k b : List Nat) : List Nat := fourL b.length ++ k ++ b ++ fourL (crc 0 (k ++ b))
set_option maxRecDepth 100000 in
set_option maxHeartbeats 2000000 in
theorem chunk_any (base : Nat) (w : World) (v : Value) (l : List Nat) (s : ByteArray) (u : Value) (b : List Nat) (h : Ap .u8 256 5 base w v l) (hs : s.size = 4) (hu : Nums .u8 256 w u b) (huv : ∀ k, u.ownBlock = some k → ¬ v.ownBlock = some k) (hul : ∀ k, u.ownBlock = some k → k < w.heap.size)
    (hl : l.length ≤ 1000000) (hb : b.length ≤ 900000) (hbase : base ≤ w.heap.size) :
    Calls Try.prog 26 #[v, .string s, u] w fun e w' => ∃ y, e = .returned y ∧ Own .u8 256 5 base w' y (l ++ chunkL (bts s) b) ∧ Keeps (fun k => v.ownBlock = some k) w w' ∧ ∀ k, y.ownBlock = some k → v.ownBlock = some k ∨ w.heap.size ≤ k := by
  obtain ⟨a, c, rfl, -, -⟩ := h.nums.open_
  obtain ⟨au, cu, rfl, -, -⟩ := hu.open_
  obtain ⟨n, hn⟩ : ∃ n, n = b.length := ⟨_, rfl⟩
  have HN := Lib.hid hn
  have HU := Lib.hid hu
  have HS := Lib.hid hs
  have HF := Lib.hid (four_any base w _ l n h (by omega) (by omega) hbase)
  rw [← hn] at HU huv hul ⊢
  have HUV := Lib.hid huv
  have HUL := Lib.hid hul
  have HV := Lib.hid h.low
  have hn9 : n ≤ 900000 := by omega
  have e1 : IntKind.u32.wrap (n : Int) = (n : Int) := by rw [IntKind.wrap_u32]; omega
  clear hn hu h huv hul hs
  go_enter Try.func26, Try.ntmps26
  go_wp2_with fail
  refine HF.out.mono ?_
  rintro e w1 ⟨y1, rfl, ho1, hk1, hf1⟩
  obtain ⟨a1, n1, c1, rfl⟩ := ho1.slice_
  have hn1 := (nums_len ho1.nums).1
  obtain ⟨M1, hM1⟩ : ∃ M, M = l ++ fourL n := ⟨_, rfl⟩
  have hm1 : M1.length = l.length + 4 := by rw [hM1, List.length_append, fourL_len]
  rw [← hM1] at ho1 hn1
  have HM1 := Lib.hid hM1
  have HO1 := Lib.hid ho1
  have HK1 := Lib.hid hk1
  have HF1 := Lib.hid hf1
  have HU1 := Lib.hid (HU.out.frame hk1 (fun k hk => HUV.out k hk))
  subst hn1
  rw [hm1] at HO1 HF1 ⊢
  have HNE := Lib.hid (show M1 ≠ [] by intro e; rw [e] at hm1; simp at hm1)
  have HLM := Lib.hid hm1
  have HL := Lib.hid (show M1.length + s.size ≤ 140737488355328 by rw [hm1, HS.out]; omega)
  have hbs1 := Nat.le_trans hbase hk1.size
  clear ho1 hk1 HU HF hM1 hf1 hm1
  go_upto_region 4 with (at_builtin; refine wpList_append_str2 rfl (.tmp 15) (.tmp 16) 33 5 9 rfl base u8s Try.underlying9 (.slice a1 (l.length + 4) c1) M1 rfl HO1.out HNE.out s rfl HL.out hbs1 ?_; intro v2 w2 ho2 hn2 hk2 hf2; have HO2 := Lib.hid ho2; have HK2 := Lib.hid hk2; have HF2 := Lib.hid hf2; clear ho2 hn2 hk2 hf2)
  have hf02 : ∀ k, v2.ownBlock = some k → (Value.slice a l.length c).ownBlock = some k ∨ w.heap.size ≤ k := fun k hk => by
    rcases HF2.out k hk with h | h
    · exact HF1.out k h
    · exact .inr (Nat.le_trans HK1.out.size h)
  have hk02 : Keeps (fun k => (Value.slice a l.length c).ownBlock = some k) w w2 := HK1.out.trans HK2.out (fun k hk => HF1.out k hk)
  have HU2 := Lib.hid (HU1.out.frame HK2.out (fun k hk h => by
    rcases HF1.out k h with h1 | h1
    · exact HUV.out k hk h1
    · have := HUL.out k hk; omega))
  have HF02 := Lib.hid hf02
  have HK02 := Lib.hid hk02
  obtain ⟨M2, hM2⟩ : ∃ M, M = M1 ++ bts s := ⟨_, rfl⟩
  have hm2 : M2.length = l.length + 8 := by rw [hM2, List.length_append, bts_len, HLM.out, HS.out]
  have ho2 := HO2.out
  rw [← hM2] at ho2
  have HO2b := Lib.hid ho2
  have HM2 := Lib.hid hM2
  have HLB := Lib.hid (show (M2.length + b.length) * 1 ≤ 140737488355328 by rw [hm2]; omega)
  have HLB2 := Lib.hid (show M2.length + b.length ≤ 140737488355328 by rw [hm2]; omega)
  have hbs2 := Nat.le_trans hbase hk02.size
  have HLM2 := Lib.hid hm2
  clear hM2 hm2 ho2 hf02 hk02 HO2 HU1
  go_upto_region 5 with (at_builtin; refine wpList_append_nums_at rfl (.tmp 18) (.tmp 19) 33 5 rfl .u8 256 1 base u8s v2 M2 rfl HO2b.out (.slice au n cu) b rfl HU2.out HLB.out HLB2.out hbs2 ?_; intro v3 w3 ho3 hg3 hf3; obtain ⟨a3, n3, c3, rfl⟩ := ho3.slice_; have HO3 := Lib.hid ho3; have HG3 := Lib.hid hg3; have HF3 := Lib.hid hf3; clear ho3 hg3 hf3)
  obtain ⟨fm, hfm⟩ : ∃ fm, fm = l.length + 4 := ⟨_, rfl⟩
  have efm : (l.length : Int) + 4 = (fm : Int) := by omega
  simp only [efm]
  obtain ⟨M3, hM3⟩ : ∃ M, M = M2 ++ b := ⟨_, rfl⟩
  have ho3 := HO3.out
  rw [← hM3] at ho3
  have hn3 := (nums_len ho3.nums).1
  have hm3 : M3.length = l.length + 8 + b.length := by rw [hM3, List.length_append, HLM2.out]
  have hfr : fm ≤ n3 := by omega
  have hk3 : Keeps (fun k => (Value.slice a l.length c).ownBlock = some k) w w3 := HK02.out.grown HG3.out (fun k hk => HF02.out k hk)
  have hf3 : ∀ k, (Value.slice a3 n3 c3).ownBlock = some k → (Value.slice a l.length c).ownBlock = some k ∨ w.heap.size ≤ k := fun k hk => by
    rcases HF3.out with h | h
    · rw [h] at hk; exact HF02.out k hk
    · exact .inr (Nat.le_trans HK02.out.size (h k hk))
  have HO3b := Lib.hid ho3
  have HK3 := Lib.hid hk3
  have HF3b := Lib.hid hf3
  have HNM := Lib.hid ho3.nums
  have hdr : M3.drop fm = bts s ++ b := by
    rw [hM3, HM2.out, HM1.out, List.append_assoc, List.drop_append, List.drop_of_length_le (by rw [List.length_append, fourL_len]; omega), List.length_append, fourL_len, hfm, Nat.sub_self]; rfl
  have HDR := Lib.hid hdr
  have HM3 := Lib.hid (show M3 ++ fourL (crc 0 (bts s ++ b)) = l ++ chunkL (bts s) b by rw [hM3, HM2.out, HM1.out]; unfold chunkL; rw [← HN.out]; simp only [List.append_assoc])
  have hm39 : M3.length ≤ 2000000 := by omega
  have hbs3 := Nat.le_trans hbase hk3.size
  clear hM3 ho3 hn3 hm3 hk3 hf3 hdr hfm efm HO3 HG3 HF3 HO2b HM2 HLM2 HLB HLB2 HNE HLM HL HK2 HF2 HU2 HF02 HK02 HO1 HK1 HF1 HM1
  go_wp2_with (with_reducible (refine wpList_slice_l rfl 33 5 (.tmp 22) (.tmp 23) rfl .u8 256 1 u8s a3 n3 c3 M3 rfl HNM.out .i64 fm rfl hfr ?_); intro a9 c9 h9 ho9; have H9 := Lib.hid (h9 _ HNM.out); clear h9 ho9)
  have h9 := H9.out
  rw [HDR.out] at h9
  refine (crc_any 0 (by omega) _ _ w3 h9).mono ?_
  rintro e w4 ⟨rfl, hb4⟩
  have hk4 : Keeps (fun k => (Value.slice a l.length c).ownBlock = some k) w w4 := HK3.out.trans (Keeps.of_ext hb4 (fun _ => False)) (fun _ h => h.elim)
  have HO4 := Lib.hid (HO3b.out.below hb4 (Nat.le_refl _))
  have HK4 := Lib.hid hk4
  clear hb4 hk4 h9 H9
  go_wp2_with fail
  refine (four_any base w4 _ M3 (crc 0 (bts s ++ b)) (.inl HO4.out) (crc_lt _) hm39 (Nat.le_trans hbase HK4.out.size)).mono ?_
  rintro e w5 ⟨y5, rfl, ho5, hk5, hf5⟩
  rw [HM3.out] at ho5
  have HO5 := Lib.hid ho5
  have HK5 := Lib.hid (HK4.out.trans hk5 (fun k hk => HF3b.out k hk))
  have HF5 := Lib.hid (fun k (hk : y5.ownBlock = some k) => show (Value.slice a l.length c).ownBlock = some k ∨ w.heap.size ≤ k from by
    rcases hf5 k hk with h | h
    · exact HF3b.out k h
    · exact .inr (Nat.le_trans HK4.out.size h))
  clear ho5 hk5 hf5
  go_wp2_with fail
  go_ret
  exact ⟨y5, rfl, HO5.out, HK5.out, HF5.out⟩
end Go.Proofs.Ytighlefajekloaa.PngE

/- Package png: head. Printed by mkpngf.py. -/
set_option linter.unusedVariables false
set_option linter.unusedSimpArgs false
namespace Go.Proofs.Ytighlefajekloaa.PngF
open Go.RowKit Go.Sort Base Low NumSl DefDa DefDb NumAp SumsM SumsW PngD PngE Qb Qt Qp Qy
def headL (wd ht : Nat) : List Nat := [137, 80, 78, 71, 13, 10, 26, 10] ++ chunkL [73, 72, 68, 82] ((fourL wd ++ fourL ht) ++ [8, 6, 0, 0, 1])
def HD (W : World) (s : Option (Value × List Nat)) (w : World) : Prop :=
  match s with
  | none => Below W.heap.size W w
  | some (v, l) => Below W.heap.size W w ∧ Own .u8 256 5 W.heap.size w v l
theorem HD.b {W : World} {s : Option (Value × List Nat)} {w : World} (h : HD W s w) : Below W.heap.size W w := by
  cases s with
  | none => exact h
  | some p => exact h.1
theorem HD.step {W : World} {s : Option (Value × List Nat)} {w w' : World} (h : HD W s w) (hb : Below w.heap.size w w') : HD W s w' := by
  cases s with
  | none => exact Below.trans h (hb.mono (Below.size h))
  | some p => exact ⟨h.1.trans (hb.mono h.1.size), h.2.below hb (Nat.le_refl _)⟩
set_option maxRecDepth 100000 in
set_option maxHeartbeats 2000000 in
theorem head_any (w : World) (g wd ht : Nat) (q0 q3 q4 q5 q6 : Value) (hr : w.heap[g]? = some (.cells #[q0, .int .i64 (wd : Int), .int .i64 (ht : Int), q3, q4, q5, q6] 49)) (hw : wd ≤ 1024) (hh : ht ≤ 1024) :
    Calls Try.prog 23 #[.pointer (some ⟨g, 0, none⟩)] w fun e w' => ∃ y, e = .returned y ∧ Own .u8 256 5 w.heap.size w' y (headL wd ht) ∧ Below w.heap.size w w' := by
  have kc := fun (w : World) (C : Array Value) (n c : Nat) => Lib.run_convert_bytes_const (P := Try.prog) w 33 5 C n c Try.underlying33 Try.underlying5
  have HR := Lib.hid hr
  have hgl := lt_of_heap hr
  have ew : IntKind.u32.wrap (wd : Int) = (wd : Int) := by rw [IntKind.wrap_u32]; omega
  have eh : IntKind.u32.wrap (ht : Int) = (ht : Int) := by rw [IntKind.wrap_u32]; omega
  clear hr
  go_enter Try.func23, Try.ntmps23
  go_upto_region 1 with (fail)
  refine wp_region_script [(true, 0), (true, 1), (true, 2), (true, 3), (true, 4), (true, 6), (true, 7), (true, 8), (true, 9), (true, 10), (false, 5), (false, 11), (true, 12)] (HD w) none (by kernel_rfl) (by kernel_rfl) ⟨rfl, rfl, rfl, Nat.le_refl _, fun _ _ => rfl⟩ ?_
  refine Scr.quiet (A := ?A0) (o := ?o0) (fun s9 w9 w8 (h9 : HD w s9 w9) hb9 => h9.step hb9) none w (Below.refl _ _) ?e0 ?w0 4 ?d0 (by simp) ?h0 ?n0
  case e0 => simp only [List.getElem?_toArray, List.getElem?_cons_succ, List.getElem?_cons_zero]; exact rfl
  case w0 => exact rfl
  case d0 => exact rfl
  case h0 =>
    intro s9 w9 h9
    go_big_quiet_op
    exact rfl
  refine Scr.quiet (A := ?A1) (o := ?o1) (fun s9 w9 w8 (h9 : HD w s9 w9) hb9 => h9.step hb9) none w (Below.refl _ _) ?e1 ?w1 5 ?d1 (by simp) ?h1 ?n1
  case e1 => simp only [List.getElem?_toArray, List.getElem?_cons_succ, List.getElem?_cons_zero]; exact rfl
  case w1 => exact rfl
  case d1 => exact rfl
  case h1 =>
    intro s9 w9 h9
    go_big_quiet_op
    exact rfl
  refine Scr.quiet (A := ?A2) (o := ?o2) (fun s9 w9 w8 (h9 : HD w s9 w9) hb9 => h9.step hb9) none w (Below.refl _ _) ?e2 ?w2 6 ?d2 (by simp) ?h2 ?n2
  case e2 => simp only [List.getElem?_toArray, List.getElem?_cons_succ, List.getElem?_cons_zero]; exact rfl
  case w2 => exact rfl
  case d2 => exact rfl
  case h2 =>
    intro s9 w9 h9
    go_big_quiet_op
    exact rfl
  refine Scr.quiet (A := ?A3) (o := ?o3) (fun s9 w9 w8 (h9 : HD w s9 w9) hb9 => h9.step hb9) none w (Below.refl _ _) ?e3 ?w3 7 ?d3 (by simp) ?h3 ?n3
  case e3 => simp only [List.getElem?_toArray, List.getElem?_cons_succ, List.getElem?_cons_zero]; exact rfl
  case w3 => exact rfl
  case d3 => exact rfl
  case h3 =>
    intro s9 w9 h9
    have z1 : ∀ d os, (grow (redrawn w9 d) os).cell? ⟨g, 1, none⟩ = some (.int .i64 (wd : Int)) := fun d os => cell_regrown (cell_of_row _ _ 1 _ _ _ ((h9.b.block g hgl).trans HR.out)) d os
    go_big_quiet_op
    exact rfl
  refine Scr.quiet (A := ?A4) (o := ?o4) (fun s9 w9 w8 (h9 : HD w s9 w9) hb9 => h9.step hb9) none w (Below.refl _ _) ?e4 ?w4 8 ?d4 (by simp) ?h4 ?n4
  case e4 => simp only [List.getElem?_toArray, List.getElem?_cons_succ, List.getElem?_cons_zero]; exact rfl
  case w4 => exact rfl
  case d4 => exact rfl
  case h4 =>
    intro s9 w9 h9
    go_big_quiet_op
    exact rfl
  refine Scr.quiet (A := ?A6) (o := ?o6) (fun s9 w9 w8 (h9 : HD w s9 w9) hb9 => h9.step hb9) none w (Below.refl _ _) ?e6 ?w6 10 ?d6 (by simp) ?h6 ?n6
  case e6 => simp only [List.getElem?_toArray, List.getElem?_cons_succ, List.getElem?_cons_zero]; exact rfl
  case w6 => exact rfl
  case d6 => exact rfl
  case h6 =>
    intro s9 w9 h9
    go_big_quiet_op
    exact rfl
  refine Scr.quiet (A := ?A7) (o := ?o7) (fun s9 w9 w8 (h9 : HD w s9 w9) hb9 => h9.step hb9) none w (Below.refl _ _) ?e7 ?w7 11 ?d7 (by simp) ?h7 ?n7
  case e7 => simp only [List.getElem?_toArray, List.getElem?_cons_succ, List.getElem?_cons_zero]; exact rfl
  case w7 => exact rfl
  case d7 => exact rfl
  case h7 =>
    intro s9 w9 h9
    go_big_quiet_op
    exact rfl
  refine Scr.quiet (A := ?A8) (o := ?o8) (fun s9 w9 w8 (h9 : HD w s9 w9) hb9 => h9.step hb9) none w (Below.refl _ _) ?e8 ?w8 12 ?d8 (by simp) ?h8 ?n8
  case e8 => simp only [List.getElem?_toArray, List.getElem?_cons_succ, List.getElem?_cons_zero]; exact rfl
  case w8 => exact rfl
  case d8 => exact rfl
  case h8 =>
    intro s9 w9 h9
    go_big_quiet_op
    exact rfl
  refine Scr.quiet (A := ?A9) (o := ?o9) (fun s9 w9 w8 (h9 : HD w s9 w9) hb9 => h9.step hb9) none w (Below.refl _ _) ?e9 ?w9 13 ?d9 (by simp) ?h9 ?n9
  case e9 => simp only [List.getElem?_toArray, List.getElem?_cons_succ, List.getElem?_cons_zero]; exact rfl
  case w9 => exact rfl
  case d9 => exact rfl
  case h9 =>
    intro s9 w9 h9
    have z1 : ∀ d os, (grow (redrawn w9 d) os).cell? ⟨g, 2, none⟩ = some (.int .i64 (ht : Int)) := fun d os => cell_regrown (cell_of_row _ _ 2 _ _ _ ((h9.b.block g hgl).trans HR.out)) d os
    go_big_quiet_op
    exact rfl
  refine Scr.quiet (A := ?A10) (o := ?o10) (fun s9 w9 w8 (h9 : HD w s9 w9) hb9 => h9.step hb9) none w (Below.refl _ _) ?e10 ?w10 14 ?d10 (by simp) ?h10 ?n10
  case e10 => simp only [List.getElem?_toArray, List.getElem?_cons_succ, List.getElem?_cons_zero]; exact rfl
  case w10 => exact rfl
  case d10 => exact rfl
  case h10 =>
    intro s9 w9 h9
    go_big_quiet_op
    exact rfl
  refine Scr.call (o := ?o5) 34 #[.slice none 0 0, .int .u32 (wd : Int)] (fun v s => s = some (v, fourL wd)) ?e5 ?w5 ?r5 ?c5 ?n5
  case e5 => simp only [List.getElem?_toArray, List.getElem?_cons_succ, List.getElem?_cons_zero]; exact rfl
  case w5 => exact rfl
  case r5 => intro w9; simp [execOp, Act.eval, Act.put, resolve, go_sem]
  case c5 =>
    intro w9 h9
    refine (four_any w.heap.size w9 _ [] wd (.inl (Own.nil _ _ _ _ _)) (by omega) (by simp) h9.size).mono ?_
    rintro e w' ⟨y, rfl, ho, hk, -⟩
    exact ⟨y, _, rfl, rfl, Below.trans h9 (hk.below _ h9.size (fun k hk => by cases hk)), ho⟩
  rintro v1 s1 rfl
  simp only [Act.put, List.setIfInBounds_toArray, List.set_cons_succ, List.set_cons_zero]
  refine Scr.call (o := ?o11) 34 #[v1, .int .u32 (ht : Int)] (fun v s => s = some (v, fourL wd ++ fourL ht)) ?e11 ?w11 ?r11 ?c11 ?n11
  case e11 => simp only [List.getElem?_toArray, List.getElem?_cons_succ, List.getElem?_cons_zero]; exact rfl
  case w11 => exact rfl
  case r11 => intro w9; simp [execOp, Act.eval, Act.put, resolve, go_sem]
  case c11 =>
    intro w9 h9
    refine (four_any w.heap.size w9 v1 (fourL wd) ht (.inl h9.2) (by omega) (by rw [fourL_len]; omega) h9.1.size).mono ?_
    rintro e w' ⟨y, rfl, ho, hk, -⟩
    exact ⟨y, _, rfl, rfl, h9.1.trans (hk.below _ h9.1.size (fun k hk => (h9.2.lt k hk).1)), ho⟩
  rintro v2 s2 rfl
  simp only [Act.put, List.setIfInBounds_toArray, List.set_cons_succ, List.set_cons_zero]
  refine Scr.quiet (A := ?A12) (o := ?o12) (fun s9 w9 w8 (h9 : HD w s9 w9) hb9 => h9.step hb9) none w (Below.refl _ _) ?e12 ?w12 3 ?d12 (by simp) ?h12 ?n12
  case e12 => simp only [List.getElem?_toArray, List.getElem?_cons_succ, List.getElem?_cons_zero]; exact rfl
  case w12 => exact rfl
  case d12 => exact rfl
  case h12 =>
    intro s9 w9 h9
    go_big_quiet_op
    exact rfl
  rintro w1 ⟨hb1, ho1⟩
  obtain ⟨a2, n2, c2, rfl⟩ := ho1.slice_
  have hx8 := ext_alloc w1 (.cells #[.int .u8 137, .int .u8 80, .int .u8 78, .int .u8 71, .int .u8 13, .int .u8 10, .int .u8 26, .int .u8 10] 5 (8, 9))
  have hr8 := heap_alloc_new w1 (.cells #[.int .u8 137, .int .u8 80, .int .u8 78, .int .u8 71, .int .u8 13, .int .u8 10, .int .u8 26, .int .u8 10] 5 (8, 9))
  obtain ⟨W8, hW8⟩ : ∃ ww, ww = w1.alloc (.cells #[.int .u8 137, .int .u8 80, .int .u8 78, .int .u8 71, .int .u8 13, .int .u8 10, .int .u8 26, .int .u8 10] 5 (8, 9)) := ⟨_, rfl⟩
  rw [← hW8] at hx8 hr8
  have hx5 := ext_alloc W8 (.cells #[.int .u8 8, .int .u8 6, .int .u8 0, .int .u8 0, .int .u8 1] 5)
  have hr5 := heap_alloc_new W8 (.cells #[.int .u8 8, .int .u8 6, .int .u8 0, .int .u8 0, .int .u8 1] 5)
  rw [hW8] at hx5 hr5
  rw [show (w1.alloc (.cells #[.int .u8 137, .int .u8 80, .int .u8 78, .int .u8 71, .int .u8 13, .int .u8 10, .int .u8 26, .int .u8 10] 5 (8, 9))).heap.size = w1.heap.size + 1 by simp] at hr5
  have HN5 := Lib.hid (nums_blk .u8 256 hr5 [8, 6, 0, 0, 1] (by decide) (by decide) rfl 5 rfl)
  rw [← hW8] at hx5
  have hx58 := hx8.trans (hx5.mono hx8.size)
  have HO5 := Lib.hid (by have h := ho1.below hx58 (Nat.le_refl _); rw [hW8] at h; exact h)
  have HX := Lib.hid (by have h := hb1.trans (hx58.mono hb1.size); rw [hW8] at h; exact h)
  have HS8 := Lib.hid (hx8.size)
  have hr85 := (hx5.block w1.heap.size (lt_of_heap hr8)).trans hr8
  rw [hW8] at hr85
  have HR8 := Lib.hid hr85
  have hlt8 : w1.heap.size < W8.heap.size := by rw [hW8]; simp
  have HSZ := Lib.hid (show w1.heap.size < ((w1.alloc (.cells #[.int .u8 137, .int .u8 80, .int .u8 78, .int .u8 71, .int .u8 13, .int .u8 10, .int .u8 26, .int .u8 10] 5 (8, 9))).alloc (.cells #[.int .u8 8, .int .u8 6, .int .u8 0, .int .u8 0, .int .u8 1] 5)).heap.size by simp; omega)
  have hbs := HX.out.size
  have hbs1 := hb1.size
  have HLO := Lib.hid ho1.lt
  clear hx8 hr8 hx5 hr5 hx58 hr85 hW8 hlt8 hb1 ho1
  go_simp
  go_wp2_with (at_builtin; refine wpList_append_ap2 rfl (.tmp 18) (.tmp 19) 33 5 rfl .u8 256 1 w.heap.size u8s (.slice a2 n2 c2) (fourL wd ++ fourL ht) rfl (.inl HO5.out) _ [8, 6, 0, 0, 1] (by decide) rfl HN5.out (by simp [fourL]) (by simp [fourL]) hbs ?_; intro v4 w4 ho4 hk4 hf4; obtain ⟨a4, n4, c4, rfl⟩ := ho4.slice_; have HO4 := Lib.hid ho4; have HK4 := Lib.hid hk4; have HF4 := Lib.hid hf4; clear ho4 hk4 hf4)
  have hn8 : Nums .u8 256 w4 (.slice (some ⟨w1.heap.size, 0, none⟩) 8 8) [137, 80, 78, 71, 13, 10, 26, 10] :=
    nums_blk .u8 256 ((HK4.out.block w1.heap.size (lt_of_heap HR8.out) (fun e => by have := (HLO.out _ e).2; omega)).trans HR8.out) [137, 80, 78, 71, 13, 10, 26, 10] (by decide) (by decide) rfl 8 rfl
  have hb4 := HX.out.trans (HK4.out.below _ hbs (fun k hk => (HLO.out k hk).1))
  have hcc := chunk_any w.heap.size w4 (.slice (some ⟨w1.heap.size, 0, none⟩) 8 8) [137, 80, 78, 71, 13, 10, 26, 10] { data := #[73, 72, 68, 82] } (.slice a4 n4 c4) _ (.inr ⟨⟨_, _, rfl⟩, hn8, fun b hb => by simp only [Value.ownBlock, Option.some.injEq] at hb; omega⟩) rfl HO4.out.nums (fun k hk e => by
    simp only [Value.ownBlock, Option.some.injEq] at e
    rcases HF4.out k hk with h | h
    · have := (HLO.out k h).2; omega
    · have := HSZ.out; omega) (fun k hk => (HO4.out.lt k hk).2) (by decide) (by simp [fourL]) hb4.size
  refine hcc.mono ?_
  rintro e w5 ⟨y, rfl, ho5, hk5, -⟩
  have HO6 := Lib.hid ho5
  have HB6 := Lib.hid (hb4.trans (hk5.below _ hb4.size (fun k hk => by simp only [Value.ownBlock, Option.some.injEq] at hk; omega)))
  clear ho5 hk5 hn8 hb4 hcc
  go_wp2_with fail
  go_ret
  exact ⟨y, rfl, HO6.out, HB6.out⟩
end Go.Proofs.Ytighlefajekloaa.PngF

/- Package lightwellref09: four, Chunk, Head. -/
set_option linter.unusedVariables false
set_option linter.unusedSimpArgs false
namespace Go.Proofs.Ytighlefajekloaa.PngI
open Go.RowKit Go.Sort Base Low NumSl DefDa DefDb NumAp SumsM SumsW PngD PngE PngF Qb Qt
theorem four9_row (n : Nat) (hn : n < 4294967296) : (#[.int .u8 ((n : Int) / 16777216), .int .u8 ((n : Int) / 65536 % 256), .int .u8 ((n : Int) / 256 % 256), .int .u8 ((n : Int) % 256)] : Array Value).toList = numCells .u8 (fourL n) := four_row n hn
set_option maxRecDepth 100000 in
set_option maxHeartbeats 1000000 in
theorem rfour_any (w : World) (n : Nat) (hn : n < 4294967296) :
    Calls Try.prog 42 #[.int .i64 (n : Int)] w fun e w' => e = .returned (.slice (some ⟨w.heap.size, 0, none⟩) 4 4) ∧ Nums .u8 256 w' (.slice (some ⟨w.heap.size, 0, none⟩) 4 4) (fourL n) ∧ Below w.heap.size w w' := by
  go_enter Try.func42, Try.ntmps42
  go_wp2_with fail
  go_ret
  refine ⟨rfl, nums_blk .u8 256 (heap_alloc_new _ _) (fourL n) (by rw [fourL_len]; unfold maxLen; omega) (fourL_lt n) (four_row n hn) 4 rfl, ext_alloc _ _⟩
theorem own_str {E base : Nat} {w : World} {v : Value} {s : ByteArray} (h : w.ownsRow base E 1 v (0 + s.size) ([] ++ Lib.strCells s)) : Own .u8 256 E base w v (bts s) := by
  refine ⟨?_, fun y hy => ?_⟩
  · rw [bts_len, ← strCells_bts]
    simpa using h
  · unfold bts at hy
    rw [List.mem_map] at hy
    obtain ⟨z, -, rfl⟩ := hy
    exact z.toNat_lt
set_option maxRecDepth 100000 in
set_option maxHeartbeats 2000000 in
theorem rchunk_any (w : World) (s : ByteArray) (u : Value) (b : List Nat) (hs : s.size = 4) (hu : Nums .u8 256 w u b) (hb : b.length ≤ 900000) :
    Calls Try.prog 31 #[.string s, u] w fun e w' => ∃ y, e = .returned y ∧ Own .u8 256 5 w.heap.size w' y (chunkL (bts s) b) ∧ Below w.heap.size w w' := by
  obtain ⟨a, c, rfl, -, -⟩ := hu.open_
  obtain ⟨n, hn⟩ : ∃ n, n = b.length := ⟨_, rfl⟩
  have HN := Lib.hid hn
  have HU := Lib.hid hu
  rw [← hn] at HU ⊢
  have HS := Lib.hid hs
  have hn9 : n ≤ 900000 := by omega
  obtain ⟨i5, hi5, hz5, h15, h25⟩ := u8s.info
  have HM1 := Lib.hid (show 0 + s.size ≤ maxLen by rw [hs]; unfold maxLen; omega)
  have HM2 := Lib.hid (show 0 + s.size ≤ 140737488355328 by rw [hs]; omega)
  have HI := Lib.hid (And.intro hi5 (And.intro hz5 (And.intro h15 h25)))
  clear hn hu hs
  go_enter Try.func31, Try.ntmps31
  go_upto_region 3 with (at_builtin; go_loud (refine Lib.wpList_append_own_string _ rfl (.tmp 7) (.tmp 8) 33 9 rfl w.heap.size 5 i5 Try.underlying33 Try.underlying9 HI.out.1 HI.out.2.1 HI.out.2.2.1 HI.out.2.2.2 (.slice none 0 0) 0 [] rfl (World.ownsRow_nil _ _ _ _) s rfl HM1.out HM2.out (Nat.le_refl _) ?_); intro v1 w1 h1 hg1 hz1; have HO1 := Lib.hid (own_str h1); have HG1 := Lib.hid hg1; clear h1 hg1 hz1)
  have hk1 : Keeps (fun _ => False) w w1 := (Keeps.refl _ w).grown HG1.out (fun k hk => by cases hk)
  have hb1 : Below w.heap.size w w1 := hk1.below _ (Nat.le_refl _) (fun _ h => h.elim)
  have HB1 := Lib.hid hb1
  have HU1 := Lib.hid (HU.out.below hb1 (Nat.le_refl _))
  have hbl : (bts s).length = 4 := by rw [bts_len, HS.out]
  have HLA := Lib.hid (show ((bts s).length + b.length) * 1 ≤ 140737488355328 by have := HN.out; omega)
  have HLB := Lib.hid (show (bts s).length + b.length ≤ 140737488355328 by have := HN.out; omega)
  have hs1 := hb1.size
  have HBL := Lib.hid hbl
  clear hk1 hb1 HG1 hi5 hz5 h15 h25 HI HM1 HM2 hbl
  go_upto_region 4 with (at_builtin; refine wpList_append_nums_at rfl (.tmp 10) (.tmp 11) 33 5 rfl .u8 256 1 w.heap.size u8s v1 (bts s) rfl HO1.out (.slice a n c) b rfl HU1.out HLA.out HLB.out hs1 ?_; intro v2 w2 ho2 hg2 hf2; have HO2 := Lib.hid ho2; have HB2 := Lib.hid (below_grown HB1.out HO1.out hg2 (Nat.le_refl _) hs1); clear ho2 hg2 hf2)
  have hs2 := HB2.out.size
  have HF2 := Lib.hid (rfour_any w2 n (by omega))
  clear HLA HLB HO1 HB1
  go_wp2_with fail
  refine HF2.out.mono ?_
  rintro e w3 ⟨rfl, hn3, hb3⟩
  have HN3 := Lib.hid hn3
  have HB3 := Lib.hid (HB2.out.trans (hb3.mono hs2))
  have HO3 := Lib.hid (HO2.out.below hb3 (Nat.le_refl _))
  have hs3 := HB3.out.size
  have HLA := Lib.hid (show (([] : List Nat).length + (fourL n).length) * 1 ≤ 140737488355328 by rw [fourL_len]; simp)
  have HLB := Lib.hid (show ([] : List Nat).length + (fourL n).length ≤ 140737488355328 by rw [fourL_len]; simp)
  have HL3 := Lib.hid (fun k (h : v2.ownBlock = some k) => show k < w3.heap.size from (HO3.out.lt k h).2)
  clear hn3 hb3 HF2 HO2 HB2
  go_upto_region 6 with (at_builtin; refine wpList_append_nums_at rfl (.tmp 13) (.tmp 16) 33 5 rfl .u8 256 1 w3.heap.size u8s (.slice none 0 0) [] rfl (Own.nil _ _ _ _ _) (.slice (some ⟨w2.heap.size, 0, none⟩) 4 4) (fourL n) rfl HN3.out HLA.out HLB.out (Nat.le_refl _) ?_; intro v4 w4 ho4 hg4 hf4; rw [List.nil_append] at ho4; have HO4 := Lib.hid ho4; have HG4 := Lib.hid hg4; clear ho4 hg4 hf4)
  have hk4 : Keeps (fun _ => False) w3 w4 := (Keeps.refl _ w3).grown HG4.out (fun k hk => by cases hk)
  have hb4 : Below w3.heap.size w3 w4 := hk4.below _ (Nat.le_refl _) (fun _ h => h.elim)
  have HB4 := Lib.hid (HB3.out.trans (hb4.mono hs3))
  have HO5 := Lib.hid (HO3.out.below hb4 (Nat.le_refl _))
  have hs4 := hb4.size
  have h2l : (bts s ++ b).length = 4 + n := by rw [List.length_append, HBL.out, HN.out]
  have HLC := Lib.hid (show ((fourL n).length + (bts s ++ b).length) * 1 ≤ 140737488355328 by rw [fourL_len]; omega)
  have HLD := Lib.hid (show (fourL n).length + (bts s ++ b).length ≤ 140737488355328 by rw [fourL_len]; omega)
  have H2L := Lib.hid h2l
  clear hk4 hb4 HG4 HN3 HO3 HB3 h2l HLA HLB
  go_upto_region 7 with (at_builtin; refine wpList_append_nums_at rfl (.tmp 18) (.tmp 19) 33 5 rfl .u8 256 1 w3.heap.size u8s v4 (fourL n) rfl HO4.out v2 (bts s ++ b) rfl HO5.out.nums HLC.out HLD.out hs4 ?_; intro v5 w5 ho5 hg5 hf5; have HO6 := Lib.hid ho5; have HG5 := Lib.hid hg5; clear ho5 hg5 hf5)
  have hk5 : Keeps (fun k => v4.ownBlock = some k) w4 w5 := (Keeps.refl _ w4).grown HG5.out (fun k hk => .inl hk)
  have HB5 := Lib.hid (HB4.out.trans (hk5.below w.heap.size HB4.out.size (fun k hk => by have := (HO4.out.lt k hk).1; omega)))
  have HO7 := Lib.hid (HO5.out.frame hk5 (fun k h e => by have h1 := (HO4.out.lt k e).1; have := HL3.out k h; omega))
  have hs5 := hk5.size
  have HCR := Lib.hid (refCrc_any 0 (by omega) v2 (bts s ++ b) w5 HO7.out.nums)
  have hcl := crc_lt (bts s ++ b)
  obtain ⟨cr, hcr⟩ : ∃ x, x = crc 0 (bts s ++ b) := ⟨_, rfl⟩
  rw [← crc_eq 0 (by omega) (bts s ++ b), ← hcr] at HCR
  rw [← hcr] at hcl
  have HC := Lib.hid hcr
  have e5 : IntKind.i64.wrap (cr : Int) = (cr : Int) := by rw [IntKind.wrap_i64]; omega
  clear hk5 hcr HG5 HO5 HB4 HO4
  go_wp2_with fail
  refine HCR.out.mono ?_
  rintro e w6 ⟨rfl, rfl⟩
  go_wp2_with fail
  refine (rfour_any w5 cr hcl).mono ?_
  rintro e w6 ⟨rfl, hn6, hb6⟩
  have HN6 := Lib.hid hn6
  have HB6 := Lib.hid (HB5.out.trans (hb6.mono HB5.out.size))
  have HO8 := Lib.hid (HO6.out.below hb6 (Nat.le_refl _))
  have hs6 := Nat.le_trans hs4 (Nat.le_trans hs5 hb6.size)
  have hl5 : (fourL n ++ (bts s ++ b)).length = 8 + n := by rw [List.length_append, fourL_len, H2L.out]; omega
  have HLE := Lib.hid (show ((fourL n ++ (bts s ++ b)).length + (fourL cr).length) * 1 ≤ 140737488355328 by rw [hl5, fourL_len]; omega)
  have HLF := Lib.hid (show (fourL n ++ (bts s ++ b)).length + (fourL cr).length ≤ 140737488355328 by rw [hl5, fourL_len]; omega)
  clear hn6 hb6 hl5
  go_wp2_with (at_builtin; refine wpList_append_nums_at rfl (.tmp 21) (.tmp 25) 33 5 rfl .u8 256 1 w3.heap.size u8s v5 (fourL n ++ (bts s ++ b)) rfl HO8.out _ (fourL cr) rfl HN6.out HLE.out HLF.out hs6 ?_; intro v7 w7 ho7 hg7 hf7; have HO9 := Lib.hid ho7; have HB7 := Lib.hid (below_grown HB6.out HO8.out hg7 hs3 HB6.out.size); clear ho7 hg7 hf7)
  go_ret
  refine ⟨v7, rfl, ?_, HB7.out⟩
  have h := HO9.out.mono hs3
  rw [HC.out] at h
  unfold chunkL
  rw [← HN.out]
  simpa only [List.append_assoc] using h
theorem lit8 {w : World} {g : Nat} (h : w.heap[g]? = some (.cells #[.int .u8 137, .int .u8 80, .int .u8 78, .int .u8 71, .int .u8 13, .int .u8 10, .int .u8 26, .int .u8 10] 5)) : Nums .u8 256 w (.slice (some ⟨g, 0, none⟩) 8 8) [137, 80, 78, 71, 13, 10, 26, 10] := nums_blk .u8 256 h [137, 80, 78, 71, 13, 10, 26, 10] (by simp [maxLen]) (by decide) rfl 8 rfl
theorem lit5 {w : World} {g : Nat} (h : w.heap[g]? = some (.cells #[.int .u8 8, .int .u8 6, .int .u8 0, .int .u8 0, .int .u8 1] 5)) : Nums .u8 256 w (.slice (some ⟨g, 0, none⟩) 5 5) [8, 6, 0, 0, 1] := nums_blk .u8 256 h [8, 6, 0, 0, 1] (by simp [maxLen]) (by decide) rfl 5 rfl
set_option maxRecDepth 100000 in
set_option maxHeartbeats 2000000 in
theorem rhead_any (w : World) (wd ht : Nat) (hw : wd ≤ 1024) (hh : ht ≤ 1024) :
    Calls Try.prog 28 #[.int .i64 (wd : Int), .int .i64 (ht : Int)] w fun e w' => ∃ y, e = .returned y ∧ Own .u8 256 5 w.heap.size w' y (headL wd ht) ∧ Below w.heap.size w w' := by
  have hx0 := ext_alloc w (.cells #[.int .u8 137, .int .u8 80, .int .u8 78, .int .u8 71, .int .u8 13, .int .u8 10, .int .u8 26, .int .u8 10] 5)
  have hr0 := heap_alloc_new w (.cells #[.int .u8 137, .int .u8 80, .int .u8 78, .int .u8 71, .int .u8 13, .int .u8 10, .int .u8 26, .int .u8 10] 5)
  go_enter Try.func28, Try.ntmps28
  go_upto_region 2 with (fail)
  obtain ⟨w0, hw0⟩ : ∃ ww, ww = w.alloc (.cells #[.int .u8 137, .int .u8 80, .int .u8 78, .int .u8 71, .int .u8 13, .int .u8 10, .int .u8 26, .int .u8 10] 5) := ⟨_, rfl⟩
  rw [← hw0] at hx0 hr0 ⊢
  obtain ⟨g0, hg0⟩ : ∃ g, g = w.heap.size := ⟨_, rfl⟩
  have HG0 := Lib.hid (show w.heap.size ≤ g0 by omega)
  rw [← hg0] at hr0 ⊢
  have HX0 := Lib.hid hx0
  have HR0 := Lib.hid (lit8 hr0)
  have HLT := Lib.hid (lt_of_heap hr0)
  clear hw0 hx0 hr0 hg0
  go_wp2_with fail
  refine (rfour_any w0 wd (by omega)).mono ?_
  rintro e w1 ⟨rfl, hn1, hb1⟩
  have HN1 := Lib.hid hn1
  have HX1 := Lib.hid (HX0.out.trans (hb1.mono HX0.out.size))
  have HR1 := Lib.hid (HR0.out.below hb1 (Nat.le_refl _))
  have HS1 := Lib.hid hb1.size
  clear hn1 hb1
  go_wp2_with fail
  refine (rfour_any w1 ht (by omega)).mono ?_
  rintro e w2 ⟨rfl, hn2, hb2⟩
  have HN2 := Lib.hid hn2
  have HX2 := Lib.hid (HX1.out.trans (hb2.mono HX1.out.size))
  have HR2 := Lib.hid (HR1.out.below hb2 (Nat.le_refl _))
  have HA2 := Lib.hid (show Ap .u8 256 5 w0.heap.size w2 (.slice (some ⟨w0.heap.size, 0, none⟩) 4 4) (fourL wd) from .inr ⟨⟨_, _, rfl⟩, HN1.out.below hb2 (Nat.le_refl _), fun b hb => by simp only [Value.ownBlock, Option.some.injEq] at hb; omega⟩)
  have hs2 := Nat.le_trans HS1.out hb2.size
  clear hn2 hb2
  have HLA := Lib.hid (show ((fourL wd).length + (fourL ht).length) * 1 ≤ 140737488355328 by rw [fourL_len, fourL_len]; omega)
  have HLB := Lib.hid (show (fourL wd).length + (fourL ht).length ≤ 140737488355328 by rw [fourL_len, fourL_len]; omega)
  go_upto_region 3 with (at_builtin; refine wpList_append_ap2 rfl (.tmp 9) (.tmp 11) 33 5 rfl .u8 256 1 w0.heap.size u8s (.slice (some ⟨w0.heap.size, 0, none⟩) 4 4) (fourL wd) rfl HA2.out _ (fourL ht) (by intro e; cases e) rfl HN2.out HLA.out HLB.out hs2 ?_; intro v3 w3 ho3 hk3 hf3; have HO3 := Lib.hid ho3; have HK3 := Lib.hid hk3; clear ho3 hk3 hf3)
  have hlow : ∀ k, (Value.slice (some ⟨w0.heap.size, 0, none⟩) 4 4).ownBlock = some k → w0.heap.size ≤ k := fun k hk => by simp only [Value.ownBlock, Option.some.injEq] at hk; omega
  have HX3 := Lib.hid (HX2.out.trans (HK3.out.below w.heap.size HX2.out.size (fun k hk => Nat.le_trans HX0.out.size (hlow k hk))))
  have HR3 := Lib.hid (HR2.out.frame HK3.out (fun k e hk => by
    have h1 := hlow k hk
    have h2 := HLT.out
    simp only [Value.ownBlock, Option.some.injEq] at e
    omega))
  have hxa := ext_alloc w3 (.cells #[.int .u8 8, .int .u8 6, .int .u8 0, .int .u8 0, .int .u8 1] 5)
  have HN4 := Lib.hid (lit5 (heap_alloc_new w3 (.cells #[.int .u8 8, .int .u8 6, .int .u8 0, .int .u8 0, .int .u8 1] 5)))
  have HO4 := Lib.hid (HO3.out.below hxa (Nat.le_refl _))
  have HX4 := Lib.hid (HX3.out.trans (hxa.mono HX3.out.size))
  have HR4 := Lib.hid (HR3.out.below hxa (Nat.le_refl _))
  have hs4 := Nat.le_trans hs2 (Nat.le_trans HK3.out.size hxa.size)
  have HLC := Lib.hid (show ((fourL wd ++ fourL ht).length + ([8, 6, 0, 0, 1] : List Nat).length) * 1 ≤ 140737488355328 by rw [List.length_append, fourL_len, fourL_len]; simp)
  have HLD := Lib.hid (show (fourL wd ++ fourL ht).length + ([8, 6, 0, 0, 1] : List Nat).length ≤ 140737488355328 by rw [List.length_append, fourL_len, fourL_len]; simp)
  clear hxa hs2 HLA HLB HN1 HN2 HA2 hlow
  go_upto_region 4 with (at_builtin; refine wpList_append_nums_at rfl (.tmp 13) (.tmp 14) 33 5 rfl .u8 256 1 w0.heap.size u8s v3 (fourL wd ++ fourL ht) rfl HO4.out (.slice (some ⟨w3.heap.size, 0, none⟩) 5 5) [8, 6, 0, 0, 1] rfl HN4.out HLC.out HLD.out hs4 ?_; intro v5 w5 ho5 hg5 hf5; have HO5 := Lib.hid ho5; have HG5 := Lib.hid hg5; clear ho5 hg5 hf5)
  have hk5 : Keeps (fun k => v3.ownBlock = some k) _ w5 := (Keeps.refl _ _).grown HG5.out (fun k hk => .inl hk)
  have HX5 := Lib.hid (HX4.out.trans (hk5.below w.heap.size HX4.out.size (fun k hk => Nat.le_trans HX0.out.size (HO4.out.lt k hk).1)))
  have HR5 := Lib.hid (HR4.out.frame hk5 (fun k e hk => by
    have h1 := (HO4.out.lt k hk).1
    have h2 := HLT.out
    simp only [Value.ownBlock, Option.some.injEq] at e
    omega))
  obtain ⟨LB, hLB⟩ : ∃ L, L = (fourL wd ++ fourL ht) ++ [8, 6, 0, 0, 1] := ⟨_, rfl⟩
  have hLl : LB.length = 13 := by rw [hLB]; rfl
  have HN5 := Lib.hid (show Nums .u8 256 w5 v5 LB from by rw [hLB]; exact HO5.out.nums)
  have HLL := Lib.hid hLB
  have HCH := Lib.hid (rchunk_any w5 { data := #[73, 72, 68, 82] } v5 LB rfl HN5.out (by omega))
  have hs5 : w0.heap.size ≤ w5.heap.size := Nat.le_trans hs4 hk5.size
  have HLN := Lib.hid hLl
  clear hLB hk5 HO4 HG5 HO5 HN4 HLC HLD hs4 HO3 HK3 hLl
  go_wp2_with fail
  refine HCH.out.mono ?_
  rintro e w6 ⟨y6, rfl, ho6, hb6⟩
  have hcl : (chunkL (bts { data := #[73, 72, 68, 82] }) LB).length = 25 := by
    unfold chunkL
    rw [List.length_append, List.length_append, List.length_append, fourL_len, fourL_len, HLN.out]; rfl
  have hcn : chunkL (bts { data := #[73, 72, 68, 82] }) LB ≠ [] := fun e => by rw [e] at hcl; simp at hcl
  have HO6 := Lib.hid ho6
  have HX6 := Lib.hid (HX5.out.trans (hb6.mono HX5.out.size))
  have HA6 := Lib.hid (show Ap .u8 256 5 w.heap.size w6 (.slice (some ⟨g0, 0, none⟩) 8 8) [137, 80, 78, 71, 13, 10, 26, 10] from .inr ⟨⟨_, _, rfl⟩, HR5.out.below hb6 (Nat.le_refl _), fun b hb => by simp only [Value.ownBlock, Option.some.injEq] at hb; have := HG0.out; omega⟩)
  have HCN := Lib.hid hcn
  have HLA := Lib.hid (show (([137, 80, 78, 71, 13, 10, 26, 10] : List Nat).length + (chunkL (bts { data := #[73, 72, 68, 82] }) LB).length) * 1 ≤ 140737488355328 by rw [hcl]; simp)
  have HLB := Lib.hid (show ([137, 80, 78, 71, 13, 10, 26, 10] : List Nat).length + (chunkL (bts { data := #[73, 72, 68, 82] }) LB).length ≤ 140737488355328 by rw [hcl]; simp)
  have hs6 := HX6.out.size
  clear ho6 hb6 hcl hcn HCH HR0 HR1 HR2 HR3 HR4 HR5 HX0 HX1 HX2 HX3 HX4 HX5
  go_wp2_with (at_builtin; refine wpList_append_ap2 rfl (.tmp 16) (.tmp 18) 33 5 rfl .u8 256 1 w.heap.size u8s (.slice (some ⟨g0, 0, none⟩) 8 8) [137, 80, 78, 71, 13, 10, 26, 10] rfl HA6.out y6 _ HCN.out rfl HO6.out.nums HLA.out HLB.out hs6 ?_; intro v7 w7 ho7 hk7 hf7; have HO7 := Lib.hid ho7; have HK7 := Lib.hid hk7; clear ho7 hk7 hf7)
  go_ret
  refine ⟨v7, rfl, ?_, HX6.out.trans (HK7.out.below w.heap.size HX6.out.size (fun k hk => by simp only [Value.ownBlock, Option.some.injEq] at hk; have := HG0.out; omega))⟩
  have h := HO7.out
  rw [HLL.out] at h
  exact h
end Go.Proofs.Ytighlefajekloaa.PngI

/- An append of numbers as it RUNS (for a step of a script). No program is named here. -/
set_option linter.unusedVariables false
set_option linter.unusedSimpArgs false
namespace Go.Proofs.Ytighlefajekloaa.RunAp
open Go.RowKit Base NumSl DefDa DefDb NumAp
theorem run_append_n {P : Program} {T E : TypeId} {k : IntKind} {N bytes base : Nat} (hT : NumSlice P T E k bytes) {w : World} {oa : Oper} {A : Act} (s x : Operand)
    (hop : oa.op = .call { callee := .builtin .append, args := #[s, x], argTypes := #[T, T] }) (v : Value) (l : List Nat) (hs : A.eval s = v) (hown : Own k N E base w v l) (u : Value) (m : List Nat) (hm : m ≠ []) (hx : A.eval x = u) (hu : Nums k N w u m)
    (hb : (l.length + m.length) * bytes ≤ 140737488355328) (hl : l.length + m.length ≤ 140737488355328) (hbase : base ≤ w.heap.size) :
    ∃ v' w', (execOp A.eval oa).run P w = .ok (.value v') w' ∧ Own k N E base w' v' (l ++ m) ∧ w.grownBy w' v.ownBlock ∧ (∀ b, v'.ownBlock = some b → v.ownBlock = some b ∨ w.heap.size ≤ b) := by
  obtain ⟨i, hi, hz, h1, h2⟩ := hT.info
  obtain ⟨ad, cap, rfl, hc1, hc2, hnone⟩ := hu.shape
  have hml : 0 < m.length := by cases m with
    | nil => exact absurd rfl hm
    | cons => simp
  cases ad with
  | none => have := hnone rfl; omega
  | some ad =>
    have hnews : ∀ j (y : Value), (numCells k m)[j]? = some y → w.cell? (ad.add j) = some y := by
      intro j y hj
      have hjl : j < m.length := by
        rcases Nat.lt_or_ge j m.length with h | h
        · exact h
        · rw [List.getElem?_eq_none (by rw [numCells_length]; exact h)] at hj; simp at hj
      obtain ⟨b, off, cap', e, _, hc⟩ := hu.cells hm
      simp only [Value.slice.injEq, Option.some.injEq] at e
      obtain ⟨rfl, _, _⟩ := e
      rw [numCells_at k m j hjl] at hj
      have := hc j hjl
      rw [add_none, this]; exact hj
    obtain ⟨v', w', hrun, r1, r2, _, r3⟩ := run_append_own_at (P := P) (w := w) base T oa.type E i (.int k 0) 1 bytes hT.und hi hz h1 h2 rfl (by omega) v l.length (numCells k l) hown.row ad m.length cap (numCells k m) (by rw [numCells_length]; omega) hnews (numCells_one k m) (by unfold maxLen; omega) hb hbase
    refine ⟨v', w', ?_, ⟨?_, ?_⟩, r2, ?_⟩
    · simp [execOp, hop, resolve, invoke, builtin, hs, hx, hrun, Result.andThen]
    · rw [List.length_append, numCells_append]; exact r1
    · intro y hy
      rcases List.mem_append.1 hy with hy | hy
      · exact hown.bound y hy
      · exact hu.bound y hy
    · intro b hb'
      rcases r3 with e | e
      · exact .inl (e ▸ hb')
      · rw [e] at hb'; simp only [Option.some.injEq] at hb'; exact .inr (by omega)
end Go.Proofs.Ytighlefajekloaa.RunAp

/- 'append(out, b..)' as a region that draws its order: the chain of what is laid and the append of numbers. No program is named here. -/
set_option linter.unusedVariables false
set_option linter.unusedSimpArgs false
namespace Go.Proofs.Ytighlefajekloaa.AppCh
open Go.RowKit Go.Sort Base NumSl NumAp RunAp Qb Qt Qw
theorem run_append_n0 {P : Program} {T E : TypeId} {k : IntKind} {N bytes base : Nat} (hT : NumSlice P T E k bytes) {w : World} {oa : Oper} {A : Act} (s x : Operand)
    (hop : oa.op = .call { callee := .builtin .append, args := #[s, x], argTypes := #[T, T] }) (v : Value) (l : List Nat) (hs : A.eval s = v) (hown : Own k N E base w v l) (u : Value) (m : List Nat) (hx : A.eval x = u) (hu : Nums k N w u m)
    (hb : (l.length + m.length) * bytes ≤ 140737488355328) (hl : l.length + m.length ≤ 140737488355328) (hbase : base ≤ w.heap.size) :
    ∃ v' w', (execOp A.eval oa).run P w = .ok (.value v') w' ∧ Own k N E base w' v' (l ++ m) ∧ w.grownBy w' v.ownBlock ∧ (∀ b, v'.ownBlock = some b → v.ownBlock = some b ∨ w.heap.size ≤ b) := by
  obtain ⟨i, hi, hz, h1, h2⟩ := hT.info
  obtain ⟨ad, cap, rfl, hc1, hc2, hnone⟩ := hu.shape
  cases ad with
  | none =>
    obtain ⟨hm, rfl⟩ := hnone rfl
    obtain rfl : m = [] := List.eq_nil_of_length_eq_zero hm
    have hrun := run_append_owned_none (P := P) (w := w) base T oa.type E i 1 hT.und hi v l.length (numCells k l) hown.row
    refine ⟨v, w, ?_, by simpa using hown, ⟨rfl, rfl, rfl, Nat.le_refl _, fun _ _ _ => rfl⟩, fun b hb => .inl hb⟩
    simp only [List.length_nil] at hx
    simp [execOp, hop, resolve, invoke, builtin, hs, hx, hrun, Result.andThen]
  | some ad =>
    have hnews : ∀ j (y : Value), (numCells k m)[j]? = some y → w.cell? (ad.add j) = some y := by
      intro j y hj
      have hjl : j < m.length := by
        rcases Nat.lt_or_ge j m.length with h | h
        · exact h
        · rw [List.getElem?_eq_none (by rw [numCells_length]; exact h)] at hj; simp at hj
      obtain ⟨b, off, cap', e, _, hc⟩ := hu.cells (by intro h0; subst h0; simp at hjl)
      simp only [Value.slice.injEq, Option.some.injEq] at e
      obtain ⟨rfl, _, _⟩ := e
      rw [numCells_at k m j hjl] at hj
      have := hc j hjl
      rw [add_none, this]; exact hj
    obtain ⟨v', w', hrun, r1, r2, _, r3⟩ := run_append_own_at (P := P) (w := w) base T oa.type E i (.int k 0) 1 bytes hT.und hi hz h1 h2 rfl (by omega) v l.length (numCells k l) hown.row ad m.length cap (numCells k m) (by rw [numCells_length]; omega) hnews (numCells_one k m) (by unfold maxLen; omega) hb hbase
    refine ⟨v', w', ?_, ⟨?_, ?_⟩, r2, ?_⟩
    · simp [execOp, hop, resolve, invoke, builtin, hs, hx, hrun, Result.andThen]
    · rw [List.length_append, numCells_append]; exact r1
    · intro y hy
      rcases List.mem_append.1 hy with hy | hy
      · exact hown.bound y hy
      · exact hu.bound y hy
    · intro b hb'
      rcases r3 with e | e
      · exact .inl (e ▸ hb')
      · rw [e] at hb'; simp only [Option.some.injEq] at hb'; exact .inr (by omega)
/-- how far the region has come: nothing yet; u is what will be laid behind; v is the row -/
inductive S3 where
  | a
  | b (u : Value)
  | c (v : Value)
section
variable {k : IntKind} {N E base : Nat} {W : World} {v : Value} {l m : List Nat}
def SD (k : IntKind) (N E base : Nat) (W : World) (v : Value) (l m : List Nat) (s : S3) (w : World) : Prop :=
  match s with
  | .a => Keeps (fun b => v.ownBlock = some b) W w ∧ Own k N E base w v l
  | .b u => Keeps (fun b => v.ownBlock = some b) W w ∧ Own k N E base w v l ∧ Nums k N w u m
  | .c v' => Keeps (fun b => v.ownBlock = some b) W w ∧ Own k N E base w v' (l ++ m) ∧ ∀ b, v'.ownBlock = some b → v.ownBlock = some b ∨ W.heap.size ≤ b
theorem SD.kp {s : S3} {w : World} (h : SD k N E base W v l m s w) : Keeps (fun b => v.ownBlock = some b) W w := by
  cases s <;> exact h.1
theorem SD.step (s : S3) (w w' : World) (h : SD k N E base W v l m s w) (hb : Below w.heap.size w w') : SD k N E base W v l m s w' := by
  have hk := h.kp.trans (Keeps.of_ext hb (fun _ => False)) (fun _ h => h.elim)
  cases s with
  | a => exact ⟨hk, h.2.below hb (Nat.le_refl _)⟩
  | b u => exact ⟨hk, h.2.1.below hb (Nat.le_refl _), h.2.2.below hb (Nat.le_refl _)⟩
  | c v' => exact ⟨hk, h.2.1.below hb (Nat.le_refl _), h.2.2⟩
theorem SD.app {P : Program} {ops : Array Oper} {T bytes ka : Nat} {a : Act} {oa : Oper} {u : Value} {K : Act → S3 → Prop} (hT : NumSlice P T E k bytes) (hbase : base ≤ W.heap.size)
    (hb : (l.length + m.length) * bytes ≤ 140737488355328) (hl : l.length + m.length ≤ 140737488355328)
    (hoa : ops[ka]? = some oa) (hga : oa.guard = none) (s x : Operand) (hop : oa.op = .call { callee := .builtin .append, args := #[s, x], argTypes := #[T, T] }) (hs : a.eval s = v) (hx : a.eval x = u)
    (hK : ∀ v', K (a.put oa.dst v') (.c v')) : Chain P ops (SD k N E base W v l m) K [ka] a (.b u) := by
  refine ⟨oa, hoa, by simp [Region.wanted, hga], fun v s => s = .c v, fun w hD => ?_, ?_⟩
  · obtain ⟨h1, h2, h3⟩ := hD
    obtain ⟨v', w', hrun, r1, r2, r3⟩ := run_append_n0 hT s x hop v l hs h2 u m hx h3 hb hl (Nat.le_trans hbase h1.size)
    rw [hrun]
    exact ⟨.c v', rfl, h1.grown r2 (fun k hk => .inl hk), r1, fun b hb => (r3 b hb).imp id (fun h => Nat.le_trans h1.size h)⟩
  · rintro v' s' rfl
    exact hK v'
end
end Go.Proofs.Ytighlefajekloaa.AppCh
