/- The walks of package sha: the numbers K, and H at first. -/
import Derived.Test.YtmdhekpfkligiaaShaP
set_option linter.unusedVariables false
set_option linter.unusedSimpArgs false
namespace Go.Proofs.Ytmdhekpfkligiaa.ShaK
open Go.RowKit ShaM Base Num ShaW ShaP

/-- the greatest number whose test holds, bit by bit: behind j bits -/
def rb (T : Nat → Bool) : Nat → Nat
  | 0 => 0
  | j + 1 => if T (rb T j ||| 2 ^ (35 - j)) then rb T j ||| 2 ^ (35 - j) else rb T j
theorem rb_lt (T : Nat → Bool) (j : Nat) : rb T j < 68719476736 := by
  induction j with
  | zero => simp [rb]
  | succ j ih =>
    have h : rb T j ||| 2 ^ (35 - j) < 2 ^ 36 := Nat.or_lt_two_pow (by omega) (Nat.pow_lt_pow_right (by omega) (by omega))
    rw [rb]; split <;> omega
theorem rb_or_lt (T : Nat → Bool) (j : Nat) : rb T j ||| 2 ^ (35 - j) < 68719476736 := by
  have := rb_lt T j
  exact Nat.or_lt_two_pow (n := 36) (by omega) (Nat.pow_lt_pow_right (by omega) (by omega))
theorem pr_lt (i : Nat) : pr i < 400 := by
  unfold pr
  rw [List.getD_eq_getElem?_getD]
  by_cases h : i < (pl 400).length
  · rw [List.getElem?_eq_getElem h]; exact pl_le 400 _ (List.getElem_mem h)
  · rw [List.getElem?_eq_none (by omega)]; simp
def kT (i : Nat) : Nat := rb (fun r => cubeB r (pr i)) 36 % 4294967296
def sqB (r p : Nat) : Bool := decide (r * r ≤ p * 18446744073709551616)
def hT (i : Nat) : Nat := rb (fun r => sqB r (pr i)) 36 % 4294967296
theorem or_u64 (r j : Nat) (hr : r < 68719476736) : bits BinOp.or IntKind.u64 (r : Int) (IntKind.u64.wrap (2 ^ (35 - j))) = ((r ||| 2 ^ (35 - j) : Nat) : Int) := by
  have : 2 ^ (35 - j) < 2 ^ 36 := Nat.pow_lt_pow_right (by omega) (by omega)
  have h := bits_or_u64_nat r (2 ^ (35 - j)) (by omega) (by omega)
  have e : IntKind.u64.wrap ((2 : Int) ^ (35 - j)) = ((2 ^ (35 - j) : Nat) : Int) := by
    rw [show ((2 : Int) ^ (35 - j)) = ((2 ^ (35 - j) : Nat) : Int) from by simp]
    exact wrapN _ (by omega)
  rw [e, ← h]
theorem size_k : (Try.prog.info? 34).map (·.size) = some 64 := by kernel_rfl
theorem size_u64 : (Try.prog.info? 42).map (·.size) = some 1 := by kernel_rfl
def KeysTo (w : World) (e : Ending) (w' : World) : Prop := e = .returned (.agg (arr .u32 64 kT)) ∧ Below w.heap.size w w'
set_option maxRecDepth 100000 in
set_option maxHeartbeats 1000000 in
theorem keys_any (w : World) : Calls Try.prog 14 #[] w (KeysTo w) := by
  go_enter Try.func14, Try.ntmps14
  go_wp2_with fail
  refine (primes_any _).mono ?_
  rintro e w1 ⟨rfl, hb1⟩
  have hz1 : w1.heap[w.heap.size]? = some (.cells (arr .u32 64 (fun _ => 0)) 34 (0, 0)) := (hb1.block _ (by simp; omega)).trans ((heap_alloc2_old _ _ _).trans (by kernel_rfl))
  have ho1 : w1.heap[w.heap.size + 1]? = some (.cells (arr .u32 64 (fun i => if i < 0 then kT i else 0)) 34 (0, 0)) := by
    refine (hb1.block _ (by simp)).trans ((heap_alloc2_new _ _ _).trans ?_)
    rw [show (fun i => if i < 0 then kT i else 0) = (fun _ => 0) from by funext i; simp]
    kernel_rfl
  have hw1 : Below w.heap.size w w1 := (((Below.refl _ _).alloc (Nat.le_refl _) _).alloc (by simp) _).trans (hb1.mono (by simp; omega))
  have HZ := Lib.hid hz1
  have HO := Lib.hid ho1
  have HW := Lib.hid hw1
  clear hz1 ho1 hw1 hb1
  go_wp2_with fail
  go_loopw [8] (fun v wr => ∃ i : Nat, i ≤ 64 ∧ v = .int .i64 (i : Int) ∧ wr.heap[w.heap.size]? = some (.cells (arr .u32 64 (fun _ => 0)) 34 (0, 0)) ∧
    wr.heap[w.heap.size + 1]? = some (.cells (arr .u32 64 (fun j => if j < i then kT j else 0)) 34 (0, 0)) ∧ Below w.heap.size w wr) (fun v _ => 64 - (intOf v).toNat)
  case atStart => exact ⟨0, by omega, rfl, HZ.out, HO.out, HW.out⟩
  case round =>
    obtain ⟨i, hi, rfl, hz, ho, hb⟩ := hrel
    clear HZ HO HW
    have HZ := Lib.hid hz
    have HO := Lib.hid ho
    have HB := Lib.hid hb
    clear hz ho hb
    by_cases hlt : i < 64
    · have d1 : decide ((i : Int) < 64) = true := by simp; omega
      have hix : ∀ w : World, (Instr.index 47 (.agg (arr .u64 64 pr)) (.int .i64 (i : Int))).run Try.prog w = .ok (.int .u64 (pr i : Int)) w := fun w => run_index_arr 47 42 64 .u64 pr Try.underlying47 Try.underlying42 size_u64 i hlt w
      go_wp2_with fail
      clear hix
      obtain ⟨wo, rfl⟩ : ∃ wo : World, wo = wr := ⟨_, rfl⟩
      go_loop [4, 12] (fun r v => ∃ j : Nat, j ≤ 36 ∧ v = .int .i64 (j : Int) ∧ r = .int .u64 (rb (fun r => cubeB r (pr i)) j : Int)) (fun _ v => 36 - (intOf v).toNat)
      case atStart => exact ⟨0, by omega, rfl, rfl⟩
      case round =>
        obtain ⟨j, hj, rfl, rfl⟩ := hrel
        by_cases hjlt : j < 36
        · obtain ⟨x, hx⟩ : ∃ x, x = rb (fun r => cubeB r (pr i)) j := ⟨_, rfl⟩
          obtain ⟨y, hy⟩ : ∃ y, y = x ||| 2 ^ (35 - j) := ⟨_, rfl⟩
          have hr := rb_lt (fun r => cubeB r (pr i)) j
          have hy1 := rb_or_lt (fun r => cubeB r (pr i)) j
          have hs : rb (fun r => cubeB r (pr i)) (j + 1) = if cubeB y (pr i) then y else x := by rw [rb, ← hx, ← hy]
          rw [← hx] at hr hy1 ⊢
          rw [← hy] at hy1
          have e1 := or_u64 x j hr
          rw [← hy] at e1
          have HS := Lib.hid hs
          have HC := Lib.hid (cube_any y (pr i) hy1 (by have := pr_lt i; omega) wo)
          clear hs hx hy
          rcases Bool.eq_false_or_eq_true (cubeB y (pr i)) with hc | hc
          · rw [hc] at HC HS
            clear hc
            go_wp2_with fail
            refine HC.out.mono ?_
            rintro e w2 ⟨rfl, rfl⟩
            go_wp2_with fail
            go_round
            case rel => exact ⟨j + 1, by omega, by go_num, by rw [HS.out]; rfl⟩
            case measure => simp [intOf]; omega
          · rw [hc] at HC HS
            clear hc
            go_wp2_with fail
            refine HC.out.mono ?_
            rintro e w2 ⟨rfl, rfl⟩
            go_wp2_with fail
            go_round
            case rel => exact ⟨j + 1, by omega, by go_num, by rw [HS.out]; rfl⟩
            case measure => simp [intOf]; omega
        · obtain rfl : j = 36 := by omega
          have c1 := (cell_of_row _ _ i _ _ _ HO.out).trans (arr_at _ _ _ _ hlt)
          have c2 := frozen_of_row _ _ i _ _ HO.out
          have hr := rb_lt (fun r => cubeB r (pr i)) 36
          have e1 : IntKind.u32.wrap ((rb (fun r => cubeB r (pr i)) 36 : Nat) : Int) = (kT i : Int) := wrap32 _
          go_wp2_with fail
          go_roundw
          case rel =>
            refine ⟨i + 1, by omega, by go_num, ?_, ?_, HB.out.setCell (by simp) _⟩
            · rw [heap_setCell_other _ _ _ _ (by simp)]; exact HZ.out
            · rw [heap_setCell_same _ _ _ _ _ _ HO.out]
              rw [arr_fill]
          case measure => simp [intOf]; omega
    · obtain rfl : i = 64 := by omega
      rw [arr_full _ _ _ _ (Nat.le_refl _)] at HO
      have s1 := Lib.hid (show (Try.prog.info? 34).map (·.size) = some (arr .u32 64 kT).size by rw [size_k, arr_size])
      have s2 : Hid ((arr .u32 64 (fun _ => 0)).size = (arr .u32 64 kT).size) := Lib.hid (by rw [arr_size, arr_size])
      go_wp2_with (first
        | (with_reducible (refine wpList_load_row rfl 34 (.tmp 1) rfl (w.heap.size + 1) rfl 34 _ _ _ HO.out Try.underlying34 rfl s1.out ?_))
        | (with_reducible (refine wpList_store_arr rfl 34 (.tmp 0) (.tmp 30) rfl w.heap.size (arr .u32 64 kT) rfl rfl 34 _ HZ.out s1.out s2.out (arr_one _ _ _) rfl ?_)))
      refine bodyPost_ret (results_cell_row rfl _ _ w.heap.size 34 _ _ _ rfl (setRow_heap _ _ _ _ _ _ HZ.out) Try.underlying34 rfl s1.out) rfl ⟨rfl, below_setRow_new HB.out (Nat.le_refl _) _⟩

theorem size_st : (Try.prog.info? 37).map (·.size) = some 8 := by kernel_rfl
def StartsTo (w : World) (e : Ending) (w' : World) : Prop := e = .returned (.agg (arr .u32 8 hT)) ∧ Below w.heap.size w w'
theorem sq_test (y p : Nat) (hy : y < 68719476736) (hp : p < 400) : sqB y p = if y * y / 18446744073709551616 < p then true else if y * y / 18446744073709551616 = p then decide (y * y % 18446744073709551616 = 0) else false := by
  unfold sqB
  generalize y * y = q
  split
  · simp; omega
  · split
    · by_cases hd0 : q % 18446744073709551616 = 0
      · simp [hd0]; omega
      · simp [hd0]; omega
    · simp; omega
set_option maxRecDepth 100000 in
set_option maxHeartbeats 2000000 in
theorem starts_any (w : World) : Calls Try.prog 15 #[] w (StartsTo w) := by
  go_enter Try.func15, Try.ntmps15
  go_wp2_with fail
  refine (primes_any _).mono ?_
  rintro e w1 ⟨rfl, hb1⟩
  have hz1 : w1.heap[w.heap.size]? = some (.cells (arr .u32 8 (fun _ => 0)) 37 (0, 0)) := (hb1.block _ (by simp; omega)).trans ((heap_alloc2_old _ _ _).trans (by kernel_rfl))
  have ho1 : w1.heap[w.heap.size + 1]? = some (.cells (arr .u32 8 (fun i => if i < 0 then hT i else 0)) 37 (0, 0)) := by
    refine (hb1.block _ (by simp)).trans ((heap_alloc2_new _ _ _).trans ?_)
    rw [show (fun i => if i < 0 then hT i else 0) = (fun _ => 0) from by funext i; simp]
    kernel_rfl
  have hw1 : Below w.heap.size w w1 := (((Below.refl _ _).alloc (Nat.le_refl _) _).alloc (by simp) _).trans (hb1.mono (by simp; omega))
  have hsz := hb1.size
  simp at hsz
  have HZ := Lib.hid hz1
  have HO := Lib.hid ho1
  have HW := Lib.hid hw1
  clear hz1 ho1 hw1 hb1
  have s1 := Lib.hid (show (Try.prog.info? 47).map (·.size) = some (arr .u64 64 pr).size by rw [size_p64, arr_size])
  go_wp2_with (((with_reducible refine wpList_store_arr rfl 47 (.tmp 2) (.tmp 9) rfl w1.heap.size (arr .u64 64 pr) rfl rfl 47 ?cur ?g1 s1.out ?g2 (arr_one _ _ _) rfl ?_); (case g1 => exact heap_alloc_new _ _); (case g2 => rw [arr_size]; rfl)))
  generalize hWW : (w1.alloc _).setRow _ _ = W
  have hP : W.heap[w1.heap.size]? = some (.cells (arr .u64 64 pr) 47 (0, 0)) := by rw [← hWW]; exact setRow_heap _ _ _ _ _ _ (heap_alloc_new w1 _)
  have hZ2 : W.heap[w.heap.size]? = some (.cells (arr .u32 8 (fun _ => 0)) 37 (0, 0)) := by rw [← hWW]; exact (setRow_other _ _ _ _ (by omega)).trans ((heap_alloc_old w1 _ (by omega)).trans HZ.out)
  have hO2 : W.heap[w.heap.size + 1]? = some (.cells (arr .u32 8 (fun i => if i < 0 then hT i else 0)) 37 (0, 0)) := by rw [← hWW]; exact (setRow_other _ _ _ _ (by omega)).trans ((heap_alloc_old w1 _ (by omega)).trans HO.out)
  have hW2 : Below w.heap.size w W := by rw [← hWW]; exact below_setRow_new (HW.out.alloc (by omega) _) (by omega) _
  clear HZ HO HW hWW
  have hg1 : w.heap.size ≠ w1.heap.size := by omega
  have hg2 : w1.heap.size ≠ w.heap.size + 1 := by omega
  generalize hgg : w1.heap.size = g at *
  have HZ := Lib.hid hZ2
  have HO := Lib.hid hO2
  have HW := Lib.hid hW2
  have HP := Lib.hid hP
  clear hgg hsz hZ2 hO2 hW2 hP
  go_loopw [10] (fun v wr => ∃ i : Nat, i ≤ 8 ∧ v = .int .i64 (i : Int) ∧ wr.heap[w.heap.size]? = some (.cells (arr .u32 8 (fun _ => 0)) 37 (0, 0)) ∧
    wr.heap[w.heap.size + 1]? = some (.cells (arr .u32 8 (fun j => if j < i then hT j else 0)) 37 (0, 0)) ∧ wr.heap[g]? = some (.cells (arr .u64 64 pr) 47 (0, 0)) ∧ Below w.heap.size w wr) (fun v _ => 8 - (intOf v).toNat)
  case atStart => exact ⟨0, by omega, rfl, HZ.out, HO.out, HP.out, HW.out⟩
  case round =>
    obtain ⟨i, hi, rfl, hz, ho, hpp, hb⟩ := hrel
    clear HZ HO HW HP
    have HZ := Lib.hid hz
    have HO := Lib.hid ho
    have HP := Lib.hid hpp
    have HB := Lib.hid hb
    clear hz ho hb hpp
    by_cases hlt : i < 8
    · have d1 : decide ((i : Int) < 8) = true := by simp; omega
      have c3 := (cell_of_row _ _ i _ _ _ HP.out).trans (arr_at .u64 64 pr i (by omega))
      go_wp2_with fail
      obtain ⟨wo, rfl⟩ : ∃ wo : World, wo = wr := ⟨_, rfl⟩
      go_loop [4, 13] (fun r v => ∃ j : Nat, j ≤ 36 ∧ v = .int .i64 (j : Int) ∧ r = .int .u64 (rb (fun r => sqB r (pr i)) j : Int)) (fun _ v => 36 - (intOf v).toNat)
      case atStart => exact ⟨0, by omega, rfl, rfl⟩
      case round =>
        obtain ⟨j, hj, rfl, rfl⟩ := hrel
        by_cases hjlt : j < 36
        · obtain ⟨x, hx⟩ : ∃ x, x = rb (fun r => sqB r (pr i)) j := ⟨_, rfl⟩
          obtain ⟨y, hy⟩ : ∃ y, y = x ||| 2 ^ (35 - j) := ⟨_, rfl⟩
          have hr := rb_lt (fun r => sqB r (pr i)) j
          have hy1 := rb_or_lt (fun r => sqB r (pr i)) j
          have hs : rb (fun r => sqB r (pr i)) (j + 1) = if sqB y (pr i) then y else x := by rw [rb, ← hx, ← hy]
          rw [← hx] at hr hy1 ⊢
          rw [← hy] at hy1
          have e1 := or_u64 x j hr
          rw [← hy] at e1
          have hT := sq_test y (pr i) hy1 (pr_lt i)
          have hm := mul64_any y y (by omega) (by omega) wo
          obtain ⟨a, ha⟩ : ∃ a, a = y * y / 18446744073709551616 := ⟨_, rfl⟩
          obtain ⟨b, hb⟩ : ∃ b, b = y * y % 18446744073709551616 := ⟨_, rfl⟩
          have hb2 : b < 18446744073709551616 := by rw [hb]; exact Nat.mod_lt _ (by omega)
          have ha2 : a < 18446744073709551616 := by
            rw [ha]
            exact Nat.div_lt_of_lt_mul (Nat.lt_of_lt_of_le (Nat.mul_lt_mul'' hy1 hy1) (by omega))
          rw [← ha, ← hb] at hm hT
          rw [hT] at hs
          have HC := Lib.hid hm
          have hpl := pr_lt i
          have HS := Lib.hid hs
          clear hs hx hy ha hb hm hT
          by_cases c1 : a < pr i
          · rw [if_pos c1] at HS
            have t0 : decide ((a : Int) < (pr i : Int)) = true := decide_eq_true (by omega)
            go_wp2_with fail
            refine HC.out.mono ?_
            rintro e w2 ⟨rfl, rfl⟩
            go_wp2_with fail
            go_round
            case rel => exact ⟨j + 1, by omega, by go_num, by rw [HS.out]; rfl⟩
            case measure => simp [intOf]; omega
          · rw [if_neg c1] at HS
            have t0 : decide ((a : Int) < (pr i : Int)) = false := decide_eq_false (by omega)
            by_cases c2 : a = pr i
            · rw [if_pos c2] at HS
              have t1 : ((a : Int) == (pr i : Int)) = true := by simp; omega
              by_cases c4 : b = 0
              · rw [decide_eq_true c4] at HS
                have t2 : ((b : Int) == 0) = true := by simp; omega
                have c5 : a ≤ pr i := by omega
                have c6 : pr i ≤ a := by omega
                have c7 : b ≤ 0 := by omega
                clear c1 c2 c4
                go_wp2_with fail
                refine HC.out.mono ?_
                rintro e w2 ⟨rfl, rfl⟩
                go_wp2_with fail
                go_round
                case rel => exact ⟨j + 1, by omega, by go_num, by rw [HS.out]; rfl⟩
                case measure => simp [intOf]; omega
              · rw [decide_eq_false c4] at HS
                have t2 : ((b : Int) == 0) = false := by simp; omega
                have c5 : a ≤ pr i := by omega
                have c6 : pr i ≤ a := by omega
                have c7 : 0 < b := by omega
                clear c1 c2 c4
                go_wp2_with fail
                refine HC.out.mono ?_
                rintro e w2 ⟨rfl, rfl⟩
                go_wp2_with fail
                go_round
                case rel => exact ⟨j + 1, by omega, by go_num, by rw [HS.out]; rfl⟩
                case measure => simp [intOf]; omega
            · rw [if_neg c2] at HS
              have t1 : ((a : Int) == (pr i : Int)) = false := by simp; omega
              have c5 : pr i < a := by omega
              clear c1 c2
              go_wp2_with fail
              refine HC.out.mono ?_
              rintro e w2 ⟨rfl, rfl⟩
              go_wp2_with fail
              go_round
              case rel => exact ⟨j + 1, by omega, by go_num, by rw [HS.out]; rfl⟩
              case measure => simp [intOf]; omega
        · obtain rfl : j = 36 := by omega
          have c1 := (cell_of_row _ _ i _ _ _ HO.out).trans (arr_at _ _ _ _ hlt)
          have c2 := frozen_of_row _ _ i _ _ HO.out
          have hr := rb_lt (fun r => sqB r (pr i)) 36
          have e1 : IntKind.u32.wrap ((rb (fun r => sqB r (pr i)) 36 : Nat) : Int) = (hT i : Int) := wrap32 _
          clear c3
          go_wp2_with fail
          go_roundw
          case rel =>
            refine ⟨i + 1, by omega, by go_num, ?_, ?_, ?_, HB.out.setCell (by simp) _⟩
            · rw [heap_setCell_other _ _ _ _ (by simp)]; exact HZ.out
            · rw [heap_setCell_same _ _ _ _ _ _ HO.out, arr_fill]
            · rw [heap_setCell_other _ _ _ _ hg2]; exact HP.out
          case measure => simp [intOf]; omega
    · obtain rfl : i = 8 := by omega
      rw [arr_full _ _ _ _ (Nat.le_refl _)] at HO
      have s1 := Lib.hid (show (Try.prog.info? 37).map (·.size) = some (arr .u32 8 hT).size by rw [size_st, arr_size])
      have s2 : Hid ((arr .u32 8 (fun _ => 0)).size = (arr .u32 8 hT).size) := Lib.hid (by rw [arr_size, arr_size])
      go_wp2_with (first
        | (with_reducible (refine wpList_load_row rfl 37 (.tmp 1) rfl (w.heap.size + 1) rfl 37 _ _ _ HO.out Try.underlying37 rfl s1.out ?_))
        | (with_reducible (refine wpList_store_arr rfl 37 (.tmp 0) (.tmp 50) rfl w.heap.size (arr .u32 8 hT) rfl rfl 37 _ HZ.out s1.out s2.out (arr_one _ _ _) rfl ?_)))
      refine bodyPost_ret (results_cell_row rfl _ _ w.heap.size 37 _ _ _ rfl (setRow_heap _ _ _ _ _ _ HZ.out) Try.underlying37 rfl s1.out) rfl ⟨rfl, below_setRow_new HB.out (Nat.le_refl _) _⟩
end Go.Proofs.Ytmdhekpfkligiaa.ShaK
