/- Package deflate: turned, symbol, among. -/
import Derived.Test.YtighlefajekloaaDm
import Derived.Test.YtighlefajekloaaLow
import Derived.Test.YtighlefajekloaaNum
import Derived.Test.YtighlefajekloaaQu
set_option linter.unusedVariables false
set_option linter.unusedSimpArgs false
namespace Go.Proofs.Ytighlefajekloaa.DefV
open Go.RowKit Go.Sort BitsM Base DefM DefN Qb
def a1 (x : Int) : Int := bits .or .u32 (bits .and .u32 (x / 2) 1431655765) (bits .and .u32 x 1431655765 * 2 % 4294967296)
def a2 (x : Int) : Int := bits .or .u32 (bits .and .u32 (x / 4) 858993459) (bits .and .u32 x 858993459 * 4 % 4294967296)
def a3 (x : Int) : Int := bits .or .u32 (bits .and .u32 (x / 16) 252645135) (bits .and .u32 x 252645135 * 16 % 4294967296)
def a4 (x : Int) : Int := bits .or .u32 (bits .and .u32 (x / 256) 16711935) (bits .and .u32 x 16711935 * 256 % 4294967296)
def a5 (x : Int) : Int := bits .or .u32 (x / 65536) (x * 65536 % 4294967296)
def rev32 (x : Int) : Int := a5 (a4 (a3 (a2 (a1 x))))
theorem rev_num : ∀ c : Nat, c < 512 → ∀ k : Nat, k < 10 → 5 ≤ k → c < 2 ^ k → rev32 (c : Int) / 2 ^ (32 - k) = ((num (rev c k) : Nat) : Int) := by decide +kernel
set_option maxRecDepth 100000 in
set_option maxHeartbeats 1000000 in
theorem revBytes_any (w : World) (x : Int) : Calls Try.prog 82 #[.int .u32 x] w fun e w' => e = .returned (.int .u32 (a5 (a4 x))) ∧ w = w' := by
  go_enter Try.func82, Try.ntmps82
  go_wp2_with fail
  go_ret
  exact ⟨rfl, rfl⟩
set_option maxRecDepth 100000 in
set_option maxHeartbeats 1000000 in
theorem reverse_any (w : World) (x : Nat) (hx : x < 512) : Calls Try.prog 81 #[.int .u32 (x : Int)] w fun e w' => e = .returned (.int .u32 (rev32 (x : Int))) ∧ w = w' := by
  go_enter Try.func81, Try.ntmps81
  go_wp2_with fail
  refine (revBytes_any w (a3 (a2 (a1 (x : Int))))).mono ?_
  rintro e w1 ⟨rfl, rfl⟩
  go_wp2_with fail
  go_ret
  exact ⟨rfl, rfl⟩
def fieldV (f : Nat × Nat) : Value := .agg #[.int .u32 (f.1 : Int), .int .i64 (f.2 : Int)]
theorem size_f : (Try.prog.info? 106).map (·.size) = some 2 := by kernel_rfl
theorem store_f {ops : Array Oper} {rest : List Oper} {o : Oper} {a : Act} {w : World} {Q : Exit → Act → World → Prop} (hgd : o.guard = none) (x y : Operand) (ho : o.op = .store 106 x y) (hd : o.dst = none)
    (g : Nat) (k1 k2 : Int) (hx : a.eval x = .pointer (some ⟨g, 0, none⟩)) (hy : a.eval y = .agg #[.int .u32 k1, .int .i64 k2]) (cur : Array Value) (hg : w.heap[g]? = some (.cells cur 106)) (hc2 : cur.size = 2)
    (h : wpList Try.prog ops Q rest a (w.setRow g #[.int .u32 k1, .int .i64 k2])) : wpList Try.prog ops Q (o :: rest) a w :=
  wpList_store_arr hgd 106 x y ho g _ hx hy 106 cur hg size_f (by rw [hc2]; rfl) (by intro v hv; simp at hv; rcases hv with rfl | rfl <;> rfl) hd h
set_option maxRecDepth 100000 in
set_option maxHeartbeats 1000000 in
theorem turned_any (w : World) (c k : Nat) (h5 : 5 ≤ k) (h9 : k < 10) (hc : c < 2 ^ k) : Calls Try.prog 74 #[.int .i64 (c : Int), .int .i64 (k : Int)] w fun e w' => e = .returned (fieldV (revT c k)) ∧ Below w.heap.size w w' := by
  have hc2 : c < 512 := Nat.lt_of_lt_of_le hc (by calc 2 ^ k ≤ 2 ^ 9 := Nat.pow_le_pow_right (by omega) (by omega))
  have hr := rev_num c hc2 k h9 h5 hc
  obtain ⟨r, hr2⟩ : ∃ r, rev32 (c : Int) = r := ⟨_, rfl⟩
  obtain ⟨n, hn⟩ : ∃ n, num (rev c k) = n := ⟨_, rfl⟩
  have hv : fieldV (revT c k) = .agg #[.int .u32 (n : Int), .int .i64 (k : Int)] := by unfold fieldV revT; rw [hn]
  rw [hv]
  rw [hr2, hn] at hr
  have HB := Lib.hid (ext_alloc w (.cells #[.int .u32 0, .int .i64 0] 106))
  have HN := Lib.hid (heap_alloc_new w (.cells #[.int .u32 0, .int .i64 0] 106))
  clear hv hn hc
  have ec : IntKind.u32.wrap (c : Int) = (c : Int) := by rw [IntKind.wrap_u32]; omega
  have ek : IntKind.i64.wrap (32 - (k : Int)) = ((32 - k : Nat) : Int) := by rw [IntKind.wrap_i64]; omega
  go_enter Try.func74, Try.ntmps74
  go_upto_region 1 with (fail)
  obtain ⟨W, hW⟩ : ∃ ww, ww = w.alloc (.cells #[.int .u32 0, .int .i64 0] 106) := ⟨_, rfl⟩
  rw [← hW]
  have HWW := Lib.hid hW
  clear hW
  go_wp2_with fail
  have hR := reverse_any W c hc2
  rw [hr2] at hR
  refine hR.mono ?_
  rintro e w1 ⟨rfl, rfl⟩
  rw [HWW.out]
  go_wp2_with (with_reducible refine store_f rfl (.tmp 4) (.tmp 12) rfl rfl w.heap.size (n : Int) (k : Int) rfl rfl _ HN.out rfl ?_)
  refine bodyPost_ret (results_cell_row rfl _ _ w.heap.size 106 _ _ _ rfl (setRow_heap _ _ _ _ _ _ HN.out) Try.underlying106 rfl size_f) rfl ⟨rfl, below_setRow_new HB.out (Nat.le_refl _) _⟩
theorem sym_rev (s : Nat) : symT s = revT (symF s).1 (symF s).2 := rfl
theorem fieldV_rev (c k : Nat) : fieldV (revT c k) = .agg #[.int .u32 ((num (rev c k) : Nat) : Int), .int .i64 (k : Int)] := rfl
set_option maxRecDepth 100000 in
set_option maxHeartbeats 1000000 in
theorem symbol_any (w : World) (s : Nat) (h : s < 288) : Calls Try.prog 61 #[.int .i64 (s : Int)] w fun e w' => e = .returned (fieldV (symT s)) ∧ Below w.heap.size w w' := by
  have HB := Lib.hid (ext_alloc w (.cells #[.int .u32 0, .int .i64 0] 106))
  have HN := Lib.hid (heap_alloc_new w (.cells #[.int .u32 0, .int .i64 0] 106))
  by_cases h1 : s < 144
  · have hv : fieldV (revT (48 + s) 8) = .agg #[.int .u32 ((num (rev (48 + s) 8) : Nat) : Int), .int .i64 8] := fieldV_rev _ _
    have hs : symT s = revT (48 + s) 8 := by rw [sym_rev, show symF s = (48 + s, 8) from by unfold symF; rw [if_pos h1]]
    obtain ⟨c, hc⟩ : ∃ c, 48 + s = c := ⟨_, rfl⟩
    rw [hs, hv, hc]
    rw [hc] at hv
    obtain ⟨n, hn⟩ : ∃ n, num (rev c 8) = n := ⟨_, rfl⟩
    rw [hn] at hv ⊢
    have HT := Lib.hid (fun w9 => turned_any w9 c 8 (by omega) (by omega) (by omega))
    rw [hv] at HT
    have d144 : decide ((s : Int) < 144) = true := decide_eq_true (by omega)
    have ew : IntKind.i64.wrap (48 + (s : Int)) = (c : Int) := by rw [IntKind.wrap_i64]; omega
    clear hv hs hn
    go_enter Try.func61, Try.ntmps61
    go_upto_region 9 with (fail)
    obtain ⟨W, hW⟩ : ∃ ww, ww = w.alloc (.cells #[.int .u32 0, .int .i64 0] 106) := ⟨_, rfl⟩
    rw [← hW] at HB HN ⊢
    clear hW
    go_wp2_with fail
    refine (HT.out W).mono ?_
    rintro e w1 ⟨rfl, hb⟩
    have HN1 := Lib.hid ((hb.block _ (lt_of_heap HN.out)).trans HN.out)
    have HB1 := Lib.hid (HB.out.trans (hb.mono HB.out.size))
    clear hb
    go_wp2_with (with_reducible refine store_f rfl (.tmp 2) (.tmp 26) rfl rfl w.heap.size (n : Int) 8 rfl rfl _ HN1.out rfl ?_)
    refine bodyPost_ret (results_cell_row rfl _ _ w.heap.size 106 _ _ _ rfl (setRow_heap _ _ _ _ _ _ HN1.out) Try.underlying106 rfl size_f) rfl ⟨rfl, below_setRow_new HB1.out (Nat.le_refl _) _⟩
  · by_cases h2 : s < 256
    · have hv : fieldV (revT (400 + s - 144) 9) = .agg #[.int .u32 ((num (rev (400 + s - 144) 9) : Nat) : Int), .int .i64 9] := fieldV_rev _ _
      have hs : symT s = revT (400 + s - 144) 9 := by rw [sym_rev, show symF s = (400 + s - 144, 9) from by unfold symF; rw [if_neg h1, if_pos h2]]
      obtain ⟨c, hc⟩ : ∃ c, 400 + s - 144 = c := ⟨_, rfl⟩
      rw [hs, hv, hc]
      rw [hc] at hv
      obtain ⟨n, hn⟩ : ∃ n, num (rev c 9) = n := ⟨_, rfl⟩
      rw [hn] at hv ⊢
      have HT := Lib.hid (fun w9 => turned_any w9 c 9 (by omega) (by omega) (by omega))
      rw [hv] at HT
      have d144 : decide ((s : Int) < 144) = false := decide_eq_false (by omega)
      have d256 : decide ((s : Int) < 256) = true := decide_eq_true (by omega)
      obtain ⟨t, ht⟩ : ∃ t, t = 400 + s := ⟨_, rfl⟩
      have ew : IntKind.i64.wrap (400 + (s : Int)) = (t : Int) := by rw [IntKind.wrap_i64]; omega
      have ew2 : IntKind.i64.wrap ((t : Int) - 144) = (c : Int) := by rw [IntKind.wrap_i64]; omega
      have HTT := Lib.hid ht
      clear ht
      clear hv hs hn
      go_enter Try.func61, Try.ntmps61
      go_upto_region 9 with (fail)
      obtain ⟨W, hW⟩ : ∃ ww, ww = w.alloc (.cells #[.int .u32 0, .int .i64 0] 106) := ⟨_, rfl⟩
      rw [← hW] at HB HN ⊢
      clear hW
      go_wp2_with fail
      refine (HT.out W).mono ?_
      rintro e w1 ⟨rfl, hb⟩
      have HN1 := Lib.hid ((hb.block _ (lt_of_heap HN.out)).trans HN.out)
      have HB1 := Lib.hid (HB.out.trans (hb.mono HB.out.size))
      clear hb
      go_wp2_with (with_reducible refine store_f rfl (.tmp 2) (.tmp 26) rfl rfl w.heap.size (n : Int) 9 rfl rfl _ HN1.out rfl ?_)
      refine bodyPost_ret (results_cell_row rfl _ _ w.heap.size 106 _ _ _ rfl (setRow_heap _ _ _ _ _ _ HN1.out) Try.underlying106 rfl size_f) rfl ⟨rfl, below_setRow_new HB1.out (Nat.le_refl _) _⟩
    · by_cases h3 : s < 280
      · have hv : fieldV (revT (s - 256) 7) = .agg #[.int .u32 ((num (rev (s - 256) 7) : Nat) : Int), .int .i64 7] := fieldV_rev _ _
        have hs : symT s = revT (s - 256) 7 := by rw [sym_rev, show symF s = (s - 256, 7) from by unfold symF; rw [if_neg h1, if_neg h2, if_pos h3]]
        obtain ⟨c, hc⟩ : ∃ c, s - 256 = c := ⟨_, rfl⟩
        rw [hs, hv, hc]
        rw [hc] at hv
        obtain ⟨n, hn⟩ : ∃ n, num (rev c 7) = n := ⟨_, rfl⟩
        rw [hn] at hv ⊢
        have HT := Lib.hid (fun w9 => turned_any w9 c 7 (by omega) (by omega) (by omega))
        rw [hv] at HT
        have d144 : decide ((s : Int) < 144) = false := decide_eq_false (by omega)
        have d256 : decide ((s : Int) < 256) = false := decide_eq_false (by omega)
        have d280 : decide ((s : Int) < 280) = true := decide_eq_true (by omega)
        have ew2 : IntKind.i64.wrap ((s : Int) - 256) = (c : Int) := by rw [IntKind.wrap_i64]; omega
        clear hv hs hn
        go_enter Try.func61, Try.ntmps61
        go_upto_region 9 with (fail)
        obtain ⟨W, hW⟩ : ∃ ww, ww = w.alloc (.cells #[.int .u32 0, .int .i64 0] 106) := ⟨_, rfl⟩
        rw [← hW] at HB HN ⊢
        clear hW
        go_wp2_with fail
        refine (HT.out W).mono ?_
        rintro e w1 ⟨rfl, hb⟩
        have HN1 := Lib.hid ((hb.block _ (lt_of_heap HN.out)).trans HN.out)
        have HB1 := Lib.hid (HB.out.trans (hb.mono HB.out.size))
        clear hb
        go_wp2_with (with_reducible refine store_f rfl (.tmp 2) (.tmp 26) rfl rfl w.heap.size (n : Int) 7 rfl rfl _ HN1.out rfl ?_)
        refine bodyPost_ret (results_cell_row rfl _ _ w.heap.size 106 _ _ _ rfl (setRow_heap _ _ _ _ _ _ HN1.out) Try.underlying106 rfl size_f) rfl ⟨rfl, below_setRow_new HB1.out (Nat.le_refl _) _⟩
      · have hv : fieldV (revT (192 + s - 280) 8) = .agg #[.int .u32 ((num (rev (192 + s - 280) 8) : Nat) : Int), .int .i64 8] := fieldV_rev _ _
        have hs : symT s = revT (192 + s - 280) 8 := by rw [sym_rev, show symF s = (192 + s - 280, 8) from by unfold symF; rw [if_neg h1, if_neg h2, if_neg h3]]
        obtain ⟨c, hc⟩ : ∃ c, 192 + s - 280 = c := ⟨_, rfl⟩
        rw [hs, hv, hc]
        rw [hc] at hv
        obtain ⟨n, hn⟩ : ∃ n, num (rev c 8) = n := ⟨_, rfl⟩
        rw [hn] at hv ⊢
        have HT := Lib.hid (fun w9 => turned_any w9 c 8 (by omega) (by omega) (by omega))
        rw [hv] at HT
        have d144 : decide ((s : Int) < 144) = false := decide_eq_false (by omega)
        have d256 : decide ((s : Int) < 256) = false := decide_eq_false (by omega)
        have d280 : decide ((s : Int) < 280) = false := decide_eq_false (by omega)
        obtain ⟨t, ht⟩ : ∃ t, t = 192 + s := ⟨_, rfl⟩
        have ew : IntKind.i64.wrap (192 + (s : Int)) = (t : Int) := by rw [IntKind.wrap_i64]; omega
        have ew2 : IntKind.i64.wrap ((t : Int) - 280) = (c : Int) := by rw [IntKind.wrap_i64]; omega
        have HTT := Lib.hid ht
        clear ht
        clear hv hs hn
        go_enter Try.func61, Try.ntmps61
        go_upto_region 9 with (fail)
        obtain ⟨W, hW⟩ : ∃ ww, ww = w.alloc (.cells #[.int .u32 0, .int .i64 0] 106) := ⟨_, rfl⟩
        rw [← hW] at HB HN ⊢
        clear hW
        go_wp2_with fail
        refine (HT.out W).mono ?_
        rintro e w1 ⟨rfl, hb⟩
        have HN1 := Lib.hid ((hb.block _ (lt_of_heap HN.out)).trans HN.out)
        have HB1 := Lib.hid (HB.out.trans (hb.mono HB.out.size))
        clear hb
        go_wp2_with (with_reducible refine store_f rfl (.tmp 2) (.tmp 26) rfl rfl w.heap.size (n : Int) 8 rfl rfl _ HN1.out rfl ?_)
        refine bodyPost_ret (results_cell_row rfl _ _ w.heap.size 106 _ _ _ rfl (setRow_heap _ _ _ _ _ _ HN1.out) Try.underlying106 rfl size_f) rfl ⟨rfl, below_setRow_new HB1.out (Nat.le_refl _) _⟩
end Go.Proofs.Ytighlefajekloaa.DefV
