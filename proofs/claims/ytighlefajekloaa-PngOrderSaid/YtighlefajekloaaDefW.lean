/- Package deflate: among and its spans. -/
import Derived.Test.YtighlefajekloaaDefV
set_option linter.unusedVariables false
set_option linter.unusedSimpArgs false
namespace Go.Proofs.Ytighlefajekloaa.DefW
open Go.RowKit Go.Sort BitsM Base DefM DefN DefV Qb
theorem max0_at {x : Int} {n : Nat} (h : (n : Int) = if x > 0 then x else 0) (ts : Array TypeId) (t : TypeId) (w : World) : (Builtin.max_ ts t #[.int .i64 0, .int .i64 x]).run Try.prog w = .ok (.int .i64 (n : Int)) w := by
  rw [h]; simp [Builtin.max_, Builtin.max2]
set_option maxRecDepth 100000 in
theorem wideL_any (w : World) (k : Nat) (hk : k < 1000) : Calls Try.prog 72 #[.int .i64 (k : Int)] w fun e w' => e = .returned (.int .i64 ((wideL k : Nat) : Int)) ∧ w = w' := by
  obtain ⟨q, hq⟩ : ∃ q, k / 4 = q := ⟨_, rfl⟩
  have MX := max0_at (x := (q : Int) - 1) (n := wideL k) (by unfold wideL; rw [hq]; split <;> omega)
  have e1 : (k : Int).tdiv 4 = (q : Int) := by rw [← hq]; rfl
  have e2 : IntKind.i64.wrap ((q : Int) - 1) = (q : Int) - 1 := by rw [IntKind.wrap_i64]; omega
  have e3 : (k : Int) / 4 = (q : Int) := by omega
  have HQ := Lib.hid hq
  clear hq
  go_enter Try.func72, Try.ntmps72
  go_wp2_with fail
  go_ret
  exact ⟨rfl, rfl⟩
set_option maxRecDepth 100000 in
theorem wideD_any (w : World) (k : Nat) (hk : k < 1000) : Calls Try.prog 73 #[.int .i64 (k : Int)] w fun e w' => e = .returned (.int .i64 ((wideD k : Nat) : Int)) ∧ w = w' := by
  obtain ⟨q, hq⟩ : ∃ q, k / 2 = q := ⟨_, rfl⟩
  have MX := max0_at (x := (q : Int) - 1) (n := wideD k) (by unfold wideD; rw [hq]; split <;> omega)
  have e1 : (k : Int).tdiv 2 = (q : Int) := by rw [← hq]; rfl
  have e2 : IntKind.i64.wrap ((q : Int) - 1) = (q : Int) - 1 := by rw [IntKind.wrap_i64]; omega
  have e3 : (k : Int) / 2 = (q : Int) := by omega
  have HQ := Lib.hid hq
  clear hq
  go_enter Try.func73, Try.ntmps73
  go_wp2_with fail
  go_ret
  exact ⟨rfl, rfl⟩
theorem results_tmp_cell {P : Program} {fn : Func} {q p : Tmp} {ty : TypeId} (h : fn.results = #[.tmp q, .cell p ty]) (tmps : Array Value) (w : World) (g : Nat) (t : TypeId) (cs : Array Value) (fr : Nat × Nat) (d : TypeDesc)
    (hp : tmps.getD p undef = .pointer (some ⟨g, 0, none⟩)) (hg : w.heap[g]? = some (.cells cs t fr))
    (hu : P.underlying ty = some d) (hd : (match d with | .struct _ | .array _ _ => true | _ => false) = true) (hi : (P.info? ty).map (·.size) = some cs.size) :
    (results fn tmps).run P w = .ok (.tuple #[tmps.getD q undef, .agg cs]) w := by
  have hp' : tmps[p]?.getD undef = .pointer (some ⟨g, 0, none⟩) := by simpa using hp
  simp [results, h, hp', asAddr, run_loadVar_row w g t ty cs fr d hg hu hd hi]
set_option maxRecDepth 100000 in
set_option maxHeartbeats 1000000 in
theorem among_wideL (w : World) (n from' sp fin : Nat) (hn : n ≤ 100000) (hf : from' ≤ n)
    (hA : amongG wideL n 30 0 from' = (sp, fin)) (hsp : sp < 30) (hfin : fin ≤ n) :
    Calls Try.prog 71 #[.int .i64 (n : Int), .int .i64 (from' : Int), .func (.func 72) #[] #[]] w fun e w' => e = .returned (.tuple #[.int .i64 (sp : Int), fieldV (n - fin, wideL sp)]) ∧ Below w.heap.size w w' := by
  have HB := Lib.hid (ext_alloc w (.cells #[.int .u32 0, .int .i64 0] 106))
  have HN := Lib.hid (heap_alloc_new w (.cells #[.int .u32 0, .int .i64 0] 106))
  have HC := Lib.hid wideL_any
  go_enter Try.func71, Try.ntmps71
  go_upto_region 2 with (fail)
  obtain ⟨W, hW⟩ : ∃ ww, ww = w.alloc (.cells #[.int .u32 0, .int .i64 0] 106) := ⟨_, rfl⟩
  rw [← hW] at HB HN ⊢
  clear hW
  go_loopw [1, 8] (fun v1 v8 wr => ∃ k fr : Nat, k ≤ 30 ∧ fr ≤ n ∧ v1 = .int .i64 (fr : Int) ∧ v8 = .int .i64 (k : Int) ∧ amongG wideL n (30 - k) k fr = (sp, fin) ∧ wr = W) (fun _ v8 _ => 30 - (intOf v8).toNat)
  case atStart => exact ⟨0, from', by omega, hf, rfl, rfl, hA, rfl⟩
  case round =>
    obtain ⟨k, fr, hk, hfr, rfl, rfl, hg, rfl⟩ := hrel
    have hk30 : k < 30 := by
      rcases Nat.lt_or_ge k 30 with h | h
      · exact h
      · exfalso
        rw [show 30 - k = 0 by omega] at hg
        unfold amongG at hg
        simp only [Prod.mk.injEq] at hg
        omega
    rw [show 30 - k = (29 - k) + 1 by omega] at hg
    unfold amongG at hg
    obtain ⟨wk, hwk⟩ : ∃ wk, wideL k = wk := ⟨_, rfl⟩
    have hw13 : wk ≤ 13 := by rw [← hwk]; unfold wideL; omega
    obtain ⟨pw, hpw⟩ : ∃ pw, 2 ^ wk = pw := ⟨_, rfl⟩
    have hp8 : pw ≤ 8192 := by rw [← hpw]; exact Nat.le_trans (Nat.pow_le_pow_right (by omega) hw13) (by decide)
    have epw : ((2 : Int) ^ wk) = (pw : Int) := by rw [← hpw]; simp
    have hC := HC.out wr k (by omega)
    rw [hwk] at hC hg
    rw [hpw] at hg
    have HG := Lib.hid hg
    have HP := Lib.hid hpw
    have HWK := Lib.hid hwk
    clear hg hpw hwk
    have es : IntKind.i64.wrap ((n : Int) - (fr : Int)) = ((n - fr : Nat) : Int) := by rw [IntKind.wrap_i64]; omega
    by_cases hlt : pw ≤ n - fr
    · have d1 : decide ((pw : Int) ≤ ((n - fr : Nat) : Int)) = true := decide_eq_true (by omega)
      go_wp2_with (first | (refine hC.mono ?_; rintro e w1 ⟨rfl, rfl⟩))
      refine ⟨⟨k + 1, fr + pw, by omega, by omega, by simp, by simp, ?_, trivial⟩, by simp only [intOf]; omega⟩
      have hg := HG.out
      rw [if_pos hlt] at hg
      rw [show 30 - (k + 1) = 29 - k by omega]
      exact hg
    · have d1 : decide ((pw : Int) ≤ ((n - fr : Nat) : Int)) = false := decide_eq_false (by omega)
      have hg := HG.out
      rw [if_neg hlt] at hg
      simp only [Prod.mk.injEq] at hg
      obtain ⟨rfl, rfl⟩ := hg
      have eu : IntKind.u32.wrap ((n - fr : Nat) : Int) = ((n - fr : Nat) : Int) := by rw [IntKind.wrap_u32]; omega
      go_wp2_with (first | (refine hC.mono ?_; rintro e w1 ⟨rfl, rfl⟩) | (with_reducible refine store_f rfl (.tmp 7) (.tmp 33) rfl rfl w.heap.size ((n - fr : Nat) : Int) (wk : Int) rfl rfl _ HN.out rfl ?_))
      refine bodyPost_ret (results_tmp_cell rfl _ _ w.heap.size 106 _ _ _ rfl (setRow_heap _ _ _ _ _ _ HN.out) Try.underlying106 rfl size_f) rfl ⟨by unfold fieldV; rw [HWK.out]; rfl, below_setRow_new HB.out (Nat.le_refl _) _⟩
set_option maxRecDepth 100000 in
set_option maxHeartbeats 1000000 in
theorem among_wideD (w : World) (n from' sp fin : Nat) (hn : n ≤ 100000) (hf : from' ≤ n)
    (hA : amongG wideD n 30 0 from' = (sp, fin)) (hsp : sp < 30) (hfin : fin ≤ n) :
    Calls Try.prog 71 #[.int .i64 (n : Int), .int .i64 (from' : Int), .func (.func 73) #[] #[]] w fun e w' => e = .returned (.tuple #[.int .i64 (sp : Int), fieldV (n - fin, wideD sp)]) ∧ Below w.heap.size w w' := by
  have HB := Lib.hid (ext_alloc w (.cells #[.int .u32 0, .int .i64 0] 106))
  have HN := Lib.hid (heap_alloc_new w (.cells #[.int .u32 0, .int .i64 0] 106))
  have HC := Lib.hid wideD_any
  go_enter Try.func71, Try.ntmps71
  go_upto_region 2 with (fail)
  obtain ⟨W, hW⟩ : ∃ ww, ww = w.alloc (.cells #[.int .u32 0, .int .i64 0] 106) := ⟨_, rfl⟩
  rw [← hW] at HB HN ⊢
  clear hW
  go_loopw [1, 8] (fun v1 v8 wr => ∃ k fr : Nat, k ≤ 30 ∧ fr ≤ n ∧ v1 = .int .i64 (fr : Int) ∧ v8 = .int .i64 (k : Int) ∧ amongG wideD n (30 - k) k fr = (sp, fin) ∧ wr = W) (fun _ v8 _ => 30 - (intOf v8).toNat)
  case atStart => exact ⟨0, from', by omega, hf, rfl, rfl, hA, rfl⟩
  case round =>
    obtain ⟨k, fr, hk, hfr, rfl, rfl, hg, rfl⟩ := hrel
    have hk30 : k < 30 := by
      rcases Nat.lt_or_ge k 30 with h | h
      · exact h
      · exfalso
        rw [show 30 - k = 0 by omega] at hg
        unfold amongG at hg
        simp only [Prod.mk.injEq] at hg
        omega
    rw [show 30 - k = (29 - k) + 1 by omega] at hg
    unfold amongG at hg
    obtain ⟨wk, hwk⟩ : ∃ wk, wideD k = wk := ⟨_, rfl⟩
    have hw13 : wk ≤ 13 := by rw [← hwk]; unfold wideD; omega
    obtain ⟨pw, hpw⟩ : ∃ pw, 2 ^ wk = pw := ⟨_, rfl⟩
    have hp8 : pw ≤ 8192 := by rw [← hpw]; exact Nat.le_trans (Nat.pow_le_pow_right (by omega) hw13) (by decide)
    have epw : ((2 : Int) ^ wk) = (pw : Int) := by rw [← hpw]; simp
    have hC := HC.out wr k (by omega)
    rw [hwk] at hC hg
    rw [hpw] at hg
    have HG := Lib.hid hg
    have HP := Lib.hid hpw
    have HWK := Lib.hid hwk
    clear hg hpw hwk
    have es : IntKind.i64.wrap ((n : Int) - (fr : Int)) = ((n - fr : Nat) : Int) := by rw [IntKind.wrap_i64]; omega
    by_cases hlt : pw ≤ n - fr
    · have d1 : decide ((pw : Int) ≤ ((n - fr : Nat) : Int)) = true := decide_eq_true (by omega)
      go_wp2_with (first | (refine hC.mono ?_; rintro e w1 ⟨rfl, rfl⟩))
      refine ⟨⟨k + 1, fr + pw, by omega, by omega, by simp, by simp, ?_, trivial⟩, by simp only [intOf]; omega⟩
      have hg := HG.out
      rw [if_pos hlt] at hg
      rw [show 30 - (k + 1) = 29 - k by omega]
      exact hg
    · have d1 : decide ((pw : Int) ≤ ((n - fr : Nat) : Int)) = false := decide_eq_false (by omega)
      have hg := HG.out
      rw [if_neg hlt] at hg
      simp only [Prod.mk.injEq] at hg
      obtain ⟨rfl, rfl⟩ := hg
      have eu : IntKind.u32.wrap ((n - fr : Nat) : Int) = ((n - fr : Nat) : Int) := by rw [IntKind.wrap_u32]; omega
      go_wp2_with (first | (refine hC.mono ?_; rintro e w1 ⟨rfl, rfl⟩) | (with_reducible refine store_f rfl (.tmp 7) (.tmp 33) rfl rfl w.heap.size ((n - fr : Nat) : Int) (wk : Int) rfl rfl _ HN.out rfl ?_))
      refine bodyPost_ret (results_tmp_cell rfl _ _ w.heap.size 106 _ _ _ rfl (setRow_heap _ _ _ _ _ _ HN.out) Try.underlying106 rfl size_f) rfl ⟨by unfold fieldV; rw [HWK.out]; rfl, below_setRow_new HB.out (Nat.le_refl _) _⟩
end Go.Proofs.Ytighlefajekloaa.DefW
