/- Package lightwellref06: Tokens. -/
import Derived.Test.YtighlefajekloaaDefEc
set_option linter.unusedVariables false
set_option linter.unusedSimpArgs false
namespace Go.Proofs.Ytighlefajekloaa.DefEd
open Go.RowKit Go.Sort BitsM Base Low Bits5 Bits6 Bits8 DefM DefN Qb Qt Qp Qy Rec DefEa DefEb DefEc
def encT : Tok → List Value
  | .lit b => [.int .i64 0, .int .i64 0, .int .u8 (b : Int)]
  | .mat n d => [.int .i64 (n : Int), .int .i64 (d : Int), .int .u8 0]
theorem encT_len (t : Tok) : (encT t).length = 3 := by cases t <;> rfl
theorem toksS : RecSlice Try.prog 115 130 3 encT (.agg #[.int .i64 0, .int .i64 0, .int .u8 0]) 24 :=
  recSlice Try.underlying115 (by kernel_rfl) rfl (fun x u hu => by cases x <;> simp [encT] at hu <;> rcases hu with rfl | rfl | rfl <;> rfl) encT_len (by omega)
theorem build_tok (w : World) (n d b : Int) : (Instr.buildSlice 115 1 #[(0, .agg #[.int .i64 n, .int .i64 d, .int .u8 b])]).run Try.prog w = .ok (.slice (some ⟨w.heap.size, 0, none⟩) 1 1) (w.alloc (.cells #[.int .i64 n, .int .i64 d, .int .u8 b] 130)) := by kernel_rfl
set_option maxRecDepth 100000 in
set_option maxHeartbeats 1000000 in
theorem tokens_any (v : Value) (B : List Nat) (w : World) (hv : Nums .u8 256 w v B) (S e9 : Nat) (hto : e9 ≤ B.length) (hS : S ≤ e9) (hB : B.length ≤ 100000) :
    Calls Try.prog 67 #[v, .int .i64 (S : Int), .int .i64 (e9 : Int)] w fun e w' => ∃ v', e = .returned v' ∧ RecsOwn 3 encT 130 w.heap.size w' v' (tokens B S e9) ∧ Below w.heap.size w w' := by
  have R1 := build_tok
  obtain ⟨a, cap, rfl, hc1, hc2, -⟩ := hv.shape
  obtain ⟨N, hN⟩ : ∃ N, N = B.length := ⟨_, rfl⟩
  rw [← hN] at hv hto hB ⊢
  have HV := Lib.hid hv
  have HN := Lib.hid hN
  clear hv hN hc1 hc2
  go_enter Try.func67, Try.ntmps67
  go_wp2_with fail
  go_loopw [7, 8] (fun v7 v8 wr => ∃ (i : Nat) (l : List Tok), S ≤ i ∧ i ≤ e9 ∧ v8 = .int .i64 (i : Int) ∧ RecsOwn 3 encT 130 w.heap.size wr v7 l ∧ l.length ≤ i - S ∧ l ++ tokens B i e9 = tokens B S e9 ∧ Below w.heap.size w wr) (fun _ v8 _ => e9 - (intOf v8).toNat)
  case atStart => exact ⟨S, [], Nat.le_refl _, hS, rfl, RecsOwn.nil _ _ _, by simp, rfl, Below.refl _ _⟩
  case round =>
    obtain ⟨i, l, hSi, hie, rfl, hown, hll, hl, hb⟩ := hrel
    have HO := Lib.hid hown
    have HL := Lib.hid hl
    have HB := Lib.hid hb
    clear hown hl hb
    by_cases hlt : i < e9
    · have d1 : decide (i < e9) = true := decide_eq_true hlt
      have hm := match_any _ B wr (HV.out.below HB.out (Nat.le_refl _)) i e9 hlt (by rw [← HN.out]; exact hto) (by rw [← HN.out]; exact hB)
      have HM := Lib.hid hm
      obtain ⟨M, hM⟩ : ∃ M, M = matchF B i e9 := ⟨_, rfl⟩
      rw [← hM] at HM
      obtain ⟨n, d⟩ := M
      have HMF := Lib.hid hM
      have hle : n ≤ 258 ∧ n ≤ e9 - i := by have := match_le B i e9; rw [← hM] at this; simp only at this; omega
      clear hm hM
      go_wp2_with fail
      refine HM.out.mono ?_
      rintro e w5 ⟨a5, rfl, ha5, hb5⟩
      have ha5 : 1 ≤ n → a5 + d = i := ha5
      have HB5 := Lib.hid (HB.out.trans (hb5.mono HB.out.size))
      have HO5 := Lib.hid (HO.out.below hb5 (Nat.le_refl _))
      clear hb5 HM HO HB
      have hbs := HB5.out.size
      by_cases h3 : 3 ≤ n
      · have d3 : decide ((3 : Int) ≤ (n : Int)) = true := decide_eq_true (by omega)
        have had := ha5 (by omega)
        have ed : IntKind.i64.wrap ((i : Int) - (a5 : Int)) = (d : Int) := by rw [IntKind.wrap_i64]; omega
        have htk := tokens_mat B i e9 hlt (by rw [← HMF.out]; exact h3)
        rw [← HMF.out] at htk
        simp only at htk
        have HTK := Lib.hid htk
        have HR1 := Lib.hid (recs_one encT_len 130 w5 (.mat n d) #[.int .i64 (n : Int), .int .i64 (d : Int), .int .u8 0] rfl)
        have HO6 := Lib.hid (HO5.out.below (ext_alloc w5 (.cells #[.int .i64 (n : Int), .int .i64 (d : Int), .int .u8 0] 130)) (Nat.le_refl _))
        have hbs6 : w.heap.size ≤ (w5.alloc (.cells #[.int .i64 (n : Int), .int .i64 (d : Int), .int .u8 0] 130)).heap.size := by simp; omega
        have HLL := Lib.hid (show (l.length + [Tok.mat n d].length) * 24 ≤ 140737488355328 by simp; omega)
        have HLL2 := Lib.hid (show l.length + [Tok.mat n d].length ≤ 140737488355328 by simp; omega)
        clear htk ha5 had
        go_wp2_with (at_builtin; refine wpList_append_recs rfl (.tmp 24) (.tmp 30) 115 130 rfl _ 24 w.heap.size toksS u7 l rfl HO6.out _ [Tok.mat n d] rfl HR1.out HLL.out HLL2.out hbs6 ?_; intro v2 w6 ho6 hg6 hv6; have HO7 := Lib.hid ho6; have HB7 := Lib.hid (show Below w.heap.size w w6 from (HB5.out.alloc HB5.out.size _).grown hg6 hbs6 (fun k h => (HO6.out.lt k h).1)); clear ho6 hg6 hv6)
        refine ⟨⟨i + n, l ++ [.mat n d], by omega, by omega, ?_, HO7.out, by simp; omega, by rw [← HL.out, HTK.out]; simp, HB7.out⟩, by simp only [intOf]; omega⟩
        show Value.int .i64 ((i : Int) + (n : Int)) = .int .i64 ((i + n : Nat) : Int)
        rw [Int.natCast_add]
      · have d3 : decide ((3 : Int) ≤ (n : Int)) = false := decide_eq_false (by omega)
        obtain ⟨bb, ob, cap', e, hbw, -⟩ := HV.out.cells (by intro e; have := HN.out; rw [e] at this; simp at this; omega)
        simp only [Value.slice.injEq] at e
        obtain ⟨rfl, -, rfl⟩ := e
        have hiN : i < N := by omega
        obtain ⟨x, hx⟩ : ∃ x, B.getD i 0 = x := ⟨_, rfl⟩
        have hcx := cell_nums (HV.out.below HB5.out (Nat.le_refl _)) i (by rw [← HN.out]; exact hiN)
        rw [hx] at hcx
        have htk := tokens_lit B i e9 hlt (by rw [← HMF.out]; exact h3)
        rw [hx] at htk
        have HTK := Lib.hid htk
        have HR1 := Lib.hid (recs_one encT_len 130 w5 (.lit x) #[.int .i64 0, .int .i64 0, .int .u8 (x : Int)] rfl)
        have HO6 := Lib.hid (HO5.out.below (ext_alloc w5 (.cells #[.int .i64 0, .int .i64 0, .int .u8 (x : Int)] 130)) (Nat.le_refl _))
        have hbs6 : w.heap.size ≤ (w5.alloc (.cells #[.int .i64 0, .int .i64 0, .int .u8 (x : Int)] 130)).heap.size := by simp; omega
        have HLL := Lib.hid (show (l.length + [Tok.lit x].length) * 24 ≤ 140737488355328 by simp; omega)
        have HLL2 := Lib.hid (show l.length + [Tok.lit x].length ≤ 140737488355328 by simp; omega)
        clear htk ha5 hx
        go_wp2_with (at_builtin; refine wpList_append_recs rfl (.tmp 35) (.tmp 41) 115 130 rfl _ 24 w.heap.size toksS u7 l rfl HO6.out _ [Tok.lit x] rfl HR1.out HLL.out HLL2.out hbs6 ?_; intro v2 w6 ho6 hg6 hv6; have HO7 := Lib.hid ho6; have HB7 := Lib.hid (show Below w.heap.size w w6 from (HB5.out.alloc HB5.out.size _).grown hg6 hbs6 (fun k h => (HO6.out.lt k h).1)); clear ho6 hg6 hv6)
        refine ⟨⟨i + 1, l ++ [.lit x], by omega, by omega, rfl, HO7.out, by simp; omega, by rw [← HL.out, HTK.out]; simp, HB7.out⟩, by simp only [intOf]; omega⟩
    · have d1 : decide (i < e9) = false := decide_eq_false hlt
      go_wp2_with fail
      go_ret
      refine ⟨_, rfl, ?_, HB.out⟩
      rw [← HL.out, tokens_end B i e9 (by omega), List.append_nil]; exact HO.out
end Go.Proofs.Ytighlefajekloaa.DefEd
