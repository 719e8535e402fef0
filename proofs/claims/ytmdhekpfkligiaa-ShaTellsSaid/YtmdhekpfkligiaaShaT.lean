/- The law ShaTells. -/
import Derived.Test.YtmdhekpfkligiaaShaL
import Derived.Test.YtmdhekpfkligiaaShaQ
import Derived.Test.YtmdhekpfkligiaaShaG
import Derived.Test.YtmdhekpfkligiaaArrE
import Derived.Test.YtmdhekpfkligiaaQb
set_option linter.unusedVariables false
set_option linter.unusedSimpArgs false
namespace Go.Proofs.Ytmdhekpfkligiaa.ShaT
open Go.Sort Go.RowKit ShaM Base Num Low ShaW ShaP ShaK ShaB ShaO ShaH ShaG ShaR ShaQ ShaL Qb

theorem eq_same (f : Nat → Nat) (w : World) : (Op.equalIn 10000 23 (.agg (arr .u8 32 f)) (.agg (arr .u8 32 f))).run Try.prog w = .ok true w := by
  obtain ⟨i, h1, h2⟩ : ∃ i, Try.prog.info? 5 = some i ∧ i.size = 1 := by
    have := ShaH.size_u8
    cases hq : Try.prog.info? 5 with
    | none => simp [hq] at this
    | some i => exact ⟨i, rfl, by simpa [hq] using this⟩
  rw [run_equalIn_arr 23 5 32 .u8 f f Try.underlying23 Try.underlying5 i h1 (by kernel_rfl) w]
  simp
theorem eql_same (f : Nat → Nat) (w : World) : (binOp .eql 23 (.agg (arr .u8 32 f)) (.agg (arr .u8 32 f))).run Try.prog w = .ok (.bool true) w := by
  rw [run_eql_struct, eq_same]; rfl
theorem wpQuiet_eql_same {ops : Array Oper} {C : World → Prop} {Q : Act → Prop} {rest : List Oper} {o : Oper} {a : Act} (hgd : Region.wanted o (yielded ops a.tmps) = true) (x y : Operand) (ty : TypeId)
    (ho : o.op = .binOp .eql 23 x y ty) (f : Nat → Nat) (hx : a.eval x = .agg (arr .u8 32 f)) (hy : a.eval y = .agg (arr .u8 32 f))
    (h : wpQuiet Try.prog ops C Q rest (a.put o.dst (.bool true))) : wpQuiet Try.prog ops C Q (o :: rest) a := by
  refine BigFrame.wpQuiet_want hgd fun K hK => ⟨.bool true, fun w _ => ?_, hK _ h⟩
  unfold Oper.quietAt
  simp only [execOp, ho, hx, hy, eql_same, Result.andThen, Sem.run_bind, Sem.run_pure, Oper.quietUpon]
  exact ⟨rfl, rfl⟩
theorem wpQuiet_load_arr {ops : Array Oper} {W : World} {Q : Act → Prop} {rest : List Oper} {o : Oper} {a : Act} (hgd : Region.wanted o (yielded ops a.tmps) = true) (x : Operand)
    (ho : o.op = .load 23 x) (g : Nat) (hx : a.eval x = .pointer (some ⟨g, 0, none⟩)) (t : TypeId) (f : Nat → Nat) (fr : Nat × Nat) (hg : W.heap[g]? = some (.cells (arr .u8 32 f) t fr))
    (h : wpQuiet Try.prog ops (fun w' => ∃ p : Regrown, w' = grow (redrawn W p.d) p.os) Q rest (a.put o.dst (.agg (arr .u8 32 f)))) : wpQuiet Try.prog ops (fun w' => ∃ p : Regrown, w' = grow (redrawn W p.d) p.os) Q (o :: rest) a := by
  refine BigFrame.wpQuiet_want hgd fun K hK => ⟨.agg (arr .u8 32 f), fun w hw => ?_, hK _ h⟩
  obtain ⟨p, rfl⟩ := hw
  have hl := run_loadVar_row (P := Try.prog) (grow (redrawn W p.d) p.os) g t 23 (arr .u8 32 f) fr _ (heap_regrown hg p.d p.os) Try.underlying23 rfl (by rw [ShaH.size_32, arr_size])
  unfold Oper.quietAt execOp
  simp only [ho, hx, Instr.loadAt, Instr.sureAddr, Sem.run_bind, Sem.run_pure, Result.andThen_ok, hl, Oper.quietUpon]
  first | exact ⟨rfl, rfl⟩ | exact ⟨trivial, trivial⟩ | trivial
set_option maxRecDepth 100000 in
set_option maxHeartbeats 1000000 in
theorem tells_any (v : Value) (l : List Nat) (f : Nat → Nat) (hf : ∀ i, f i < 256) (w : World) (hv : Nums .u8 256 w v l) :
    Calls Try.prog 4 #[v, .agg (arr .u8 32 f)] w fun e w' => e = .returned (.bool true) ∧ Below w.heap.size w w' := by
  obtain ⟨a0, cap0, rfl, hl1, hl2, hl3⟩ := hv.shape
  unfold maxLen at hl2
  have hV := Lib.hid hv
  have hF := Lib.hid hf
  clear hv hf hl3
  by_cases hbig : 2000 < l.length
  · go_enter Try.func4, Try.ntmps4
    go_wp2_with fail
    refine (awake_any _).mono ?_
    rintro e w1 ⟨rfl, hb1⟩
    have H1 := Lib.hid ((ext_alloc w _).trans (hb1.mono (ext_alloc w _).size))
    clear hb1
    go_wp2_with fail
    go_ret
    exact ⟨rfl, H1.out⟩
  · go_enter Try.func4, Try.ntmps4
    go_wp2_with fail
    refine (copyBytes_any _ l _ (hV.out.below (ext_alloc _ _) (Nat.le_refl _)) (by omega)).mono ?_
    rintro e w1 ⟨v1, rfl, hown, hb1⟩
    obtain ⟨a1, n1, c1, rfl⟩ := hown.slice_
    have hrow : w1.heap[w.heap.size]? = some (.cells (arr .u8 32 f) 23 (0, 0)) := (hb1.block _ (by simp)).trans (heap_alloc_new _ _)
    have hbw : Below w.heap.size w w1 := (ext_alloc w _).trans (hb1.mono (ext_alloc w _).size)
    have hn1 := hown.nums
    have hn0 := hV.out.below hbw (Nat.le_refl _)
    have hf := hF.out
    have HBW := Lib.hid hbw
    have HR := Lib.hid hrow
    have q1 := qb (P := Try.prog) (W := w1) (f := 7) (fun w2 hb => of_hf _ l w2 (hn1.below hb (Nat.le_refl _)) (by omega))
    have q2 := qb (P := Try.prog) (W := w1) (f := 8) (fun w2 hb => (rof_any _ l w2 (hn0.below hb (Nat.le_refl _)) (by omega) : Calls _ _ _ _ (HTo w2 l)))
    have q3 := qb (P := Try.prog) (W := w1) (f := 6) (fun w2 hb => hex_any f hf w2)
    have q4 := qb (P := Try.prog) (W := w1) (f := 11) (fun w2 hb => rhex_any f hf w2)
    have q5 := qb (P := Try.prog) (W := w1) (f := 12) (fun w2 hb => (sameBytes_any _ _ l l w2 (hn1.below hb (Nat.le_refl _)) (hn0.below hb (Nat.le_refl _))).mono fun _ _ h => (⟨h.1, by rw [← h.2]; exact Below.refl _ _⟩ : _ ∧ Below w2.heap.size w2 _))
    have q6 := qb (P := Try.prog) (W := w1) (f := 9) (fun w2 hb => awake_any w2)
    simp only [decide_true] at q5
    have Q1 := Lib.hid q1
    have Q2 := Lib.hid q2
    have Q3 := Lib.hid q3
    have Q4 := Lib.hid q4
    have Q5 := Lib.hid q5
    have Q6 := Lib.hid q6
    clear hown hb1 hrow hbw hn1 hn0 hf q1 q2 q3 q4 q5 q6
    go_wp2_with fail
    refine wp_region_quiet_below (by kernel_rfl) (by kernel_rfl) ?_
    repeat (first
      | (refine wpQuiet_eql_same rfl (.tmp 13) (.tmp 15) _ rfl (hf l) rfl rfl ?_; go_simp)
      | (refine wpQuiet_load_arr rfl (.tmp 3) rfl w.heap.size rfl 23 f (0, 0) HR.out ?_; go_simp)
      | go_big_quiet_step (first | exact Q1.out _ _ | exact Q2.out _ _ | exact Q3.out _ _ | exact Q4.out _ _ | exact Q5.out _ _ | exact Q6.out _ _))
    refine wpQuiet_nil ?_
    rintro ⟨dq, osq⟩
    go_wp2_with fail
    go_ret
    exact ⟨rfl, HBW.out.trans ((below_regrown w1 dq osq).mono HBW.out.size)⟩
end Go.Proofs.Ytmdhekpfkligiaa.ShaT
