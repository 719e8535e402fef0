import Derived.Test.YtighlefajekloaaPngM
import Derived.Test.YtighlefajekloaaNumSl
import Derived.Test.YtighlefajekloaaLow
import Derived.Test.YtighlefajekloaaPngN
import Derived.Test.YtighlefajekloaaBits5
import Derived.Test.YtighlefajekloaaQu
import Derived.Test.YtighlefajekloaaRec
import Derived.Test.YtighlefajekloaaPe
import Derived.Deep.Cut
/- Package png: passes, rows. Printed by mkpnga.py. -/
set_option linter.unusedVariables false
set_option linter.unusedSimpArgs false
namespace Go.Proofs.Ytighlefajekloaa.PngA
open Go.RowKit Base PngM NumSl
def ap (px py sx sy : Nat) : Value := .agg #[.int .i64 (px : Int), .int .i64 (py : Int), .int .i64 (sx : Int), .int .i64 (sy : Int)]
def passesC : Array Value := (passesL.flatMap fun p => [.int .i64 (p.1 : Int), .int .i64 (p.2.1 : Int), .int .i64 (p.2.2.1 : Int), .int .i64 (p.2.2.2 : Int)]).toArray
def passesV : Value := .agg passesC
theorem index_0 (w : World) : (Instr.index 71 passesV (.int .i64 ((0 : Nat) : Int))).run Try.prog w = .ok (ap 0 0 8 8) w := by kernel_rfl
theorem index_1 (w : World) : (Instr.index 71 passesV (.int .i64 ((1 : Nat) : Int))).run Try.prog w = .ok (ap 4 0 8 8) w := by kernel_rfl
theorem index_2 (w : World) : (Instr.index 71 passesV (.int .i64 ((2 : Nat) : Int))).run Try.prog w = .ok (ap 0 4 4 8) w := by kernel_rfl
theorem index_3 (w : World) : (Instr.index 71 passesV (.int .i64 ((3 : Nat) : Int))).run Try.prog w = .ok (ap 2 0 4 4) w := by kernel_rfl
theorem index_4 (w : World) : (Instr.index 71 passesV (.int .i64 ((4 : Nat) : Int))).run Try.prog w = .ok (ap 0 2 2 4) w := by kernel_rfl
theorem index_5 (w : World) : (Instr.index 71 passesV (.int .i64 ((5 : Nat) : Int))).run Try.prog w = .ok (ap 1 0 2 2) w := by kernel_rfl
theorem index_6 (w : World) : (Instr.index 71 passesV (.int .i64 ((6 : Nat) : Int))).run Try.prog w = .ok (ap 0 1 1 2) w := by kernel_rfl
theorem index_pass (k px py sx sy : Nat) (hk : k < 7) (hp : passesL[k]? = some (px, py, sx, sy)) (w : World) : (Instr.index 71 passesV (.int .i64 (k : Int))).run Try.prog w = .ok (ap px py sx sy) w := by
  match k, hk with
  | 0, _ => 
    obtain ⟨rfl, rfl, rfl, rfl⟩ : _ ∧ _ ∧ _ ∧ _ := by simpa only [Prod.mk.injEq] using Option.some.inj hp
    exact index_0 w
  | 1, _ => 
    obtain ⟨rfl, rfl, rfl, rfl⟩ : _ ∧ _ ∧ _ ∧ _ := by simpa only [Prod.mk.injEq] using Option.some.inj hp
    exact index_1 w
  | 2, _ => 
    obtain ⟨rfl, rfl, rfl, rfl⟩ : _ ∧ _ ∧ _ ∧ _ := by simpa only [Prod.mk.injEq] using Option.some.inj hp
    exact index_2 w
  | 3, _ => 
    obtain ⟨rfl, rfl, rfl, rfl⟩ : _ ∧ _ ∧ _ ∧ _ := by simpa only [Prod.mk.injEq] using Option.some.inj hp
    exact index_3 w
  | 4, _ => 
    obtain ⟨rfl, rfl, rfl, rfl⟩ : _ ∧ _ ∧ _ ∧ _ := by simpa only [Prod.mk.injEq] using Option.some.inj hp
    exact index_4 w
  | 5, _ => 
    obtain ⟨rfl, rfl, rfl, rfl⟩ : _ ∧ _ ∧ _ ∧ _ := by simpa only [Prod.mk.injEq] using Option.some.inj hp
    exact index_5 w
  | 6, _ => 
    obtain ⟨rfl, rfl, rfl, rfl⟩ : _ ∧ _ ∧ _ ∧ _ := by simpa only [Prod.mk.injEq] using Option.some.inj hp
    exact index_6 w
  | n + 7, h => omega
theorem passes_size : (Try.prog.info? 71).map (·.size) = some passesC.size := by kernel_rfl
theorem passes_one : ∀ v ∈ passesC.toList, v.oneCell' = true := by decide
set_option maxRecDepth 100000 in
theorem passes_any (w : World) : Calls Try.prog 32 #[] w fun e w' => e = .returned passesV ∧ Below w.heap.size w w' := by
  go_enter Try.func32, Try.ntmps32
  go_upto_region 1 with (fail)
  obtain ⟨Z, hZ⟩ : ∃ Z : Array Value, Z = #[Value.int IntKind.i64 0, Value.int IntKind.i64 0, Value.int IntKind.i64 0, Value.int IntKind.i64 0, Value.int IntKind.i64 0, Value.int IntKind.i64 0, Value.int IntKind.i64 0, Value.int IntKind.i64 0, Value.int IntKind.i64 0, Value.int IntKind.i64 0, Value.int IntKind.i64 0, Value.int IntKind.i64 0, Value.int IntKind.i64 0, Value.int IntKind.i64 0, Value.int IntKind.i64 0, Value.int IntKind.i64 0, Value.int IntKind.i64 0, Value.int IntKind.i64 0, Value.int IntKind.i64 0, Value.int IntKind.i64 0, Value.int IntKind.i64 0, Value.int IntKind.i64 0, Value.int IntKind.i64 0, Value.int IntKind.i64 0, Value.int IntKind.i64 0, Value.int IntKind.i64 0, Value.int IntKind.i64 0, Value.int IntKind.i64 0] := ⟨_, rfl⟩
  rw [← hZ]
  have hz : Z.size = passesC.size := by rw [hZ]; decide
  clear hZ
  have hr := heap_alloc_new w (.cells Z 71)
  have hb := ext_alloc w (.cells Z 71)
  generalize w.alloc (.cells Z 71) = W at *
  have HR := Lib.hid hr
  have HB := Lib.hid hb
  have HZ := Lib.hid hz
  clear hr hb hz
  go_wp2_with (with_reducible (refine wpList_store_arr rfl 71 (.tmp 0) (.tmp 8) rfl w.heap.size passesC rfl rfl 71 Z HR.out passes_size HZ.out passes_one rfl ?_))
  refine bodyPost_ret (results_cell_row rfl _ _ w.heap.size 71 _ _ _ rfl (setRow_heap _ _ _ _ _ _ HR.out) Try.underlying71 rfl passes_size) rfl ⟨rfl, below_setRow_new HB.out (Nat.le_refl _) _⟩
set_option maxRecDepth 100000 in
set_option maxHeartbeats 2000000 in
/-- the rows of all passes, each handed to the closure: what the closure keeps of the rows so far, it keeps of all -/
theorem rows_order (wd ht c : Nat) (hw1 : 1 ≤ wd) (hw2 : wd ≤ 1024) (hh1 : 1 ≤ ht) (hh2 : ht ≤ 1024) (Inv : List (Nat × Nat × Nat) → World → Prop)
    (hext : ∀ l w1 w2, Inv l w1 → Below w1.heap.size w1 w2 → Inv l w2)
    (hstep : ∀ l (a b m : Nat) w1, l ++ [(a, b, m)] <+: rowsL wd ht → Inv l w1 → Calls Try.prog 20 #[.int .i64 (a : Int), .int .i64 (b : Int), .int .i64 (m : Int), .pointer (some ⟨c, 0, none⟩)] w1 fun e w2 => e = .returned (.tuple #[]) ∧ Inv (l ++ [(a, b, m)]) w2 ∧ ∀ (g : Nat) (cs : Array Value), w1.heap[g]? = some (.cells cs 70) → w2.heap[g]? = some (.cells cs 70))
    (w : World) (h0 : Inv [] w) :
    Calls Try.prog 19 #[.int .i64 (wd : Int), .int .i64 (ht : Int), .func (.func 20) #[] #[.pointer (some ⟨c, 0, none⟩)]] w fun e w' => e = .returned (.tuple #[]) ∧ Inv (rowsL wd ht) w' := by
  have HX := Lib.hid hext
  have HS := Lib.hid hstep
  have H0 := Lib.hid h0
  clear hstep h0
  go_enter Try.func19, Try.ntmps19
  go_wp2_with fail
  refine (passes_any w).mono ?_
  rintro e w1 ⟨rfl, hb1⟩
  have H1 := Lib.hid (HX.out _ _ _ H0.out hb1)
  clear hb1 H0
  obtain ⟨PV, hPV⟩ : ∃ v, v = passesV := ⟨_, rfl⟩
  rw [← hPV]
  have HPV := Lib.hid hPV
  clear hPV
  go_wp2_with fail
  go_loopw [11] (fun v11 wr => ∃ k : Nat, k ≤ 7 ∧ v11 = .int .i64 (k : Int) ∧ Inv (preP wd ht k) wr) (fun v11 _ => 7 - (intOf v11).toNat)
  case atStart => exact ⟨0, by omega, rfl, H1.out⟩
  case round =>
    obtain ⟨k, hk, rfl, hinv⟩ := hrel
    have HI := Lib.hid hinv
    clear hinv H1
    by_cases hk7 : k < 7
    · have d1 : decide ((k : Int) < 7) = true := decide_eq_true (by omega)
      obtain ⟨px, py, sx, sy, hp, hpx, hpy, hsx, hsy⟩ := passesL_good k hk7
      have HP := Lib.hid hp
      clear hp
      have kx : ∀ w, (Instr.index 71 PV (.int .i64 (k : Int))).run Try.prog w = .ok (.agg #[.int .i64 (px : Int), .int .i64 (py : Int), .int .i64 (sx : Int), .int .i64 (sy : Int)]) w := fun w => by rw [HPV.out]; exact index_pass k px py sx sy hk7 HP.out w
      obtain ⟨m, hm⟩ : ∃ m, m = manyP wd px sx := ⟨_, rfl⟩
      have eD : ((wd : Int) - (px : Int) + (sx : Int) - 1) / (sx : Int) = (m : Int) := by
        rw [hm, show (wd : Int) - (px : Int) + (sx : Int) - 1 = ((wd + sx - 1 - px : Nat) : Int) by omega]
        exact (Int.natCast_ediv _ _).symm
      have HM := Lib.hid hm
      clear hm
      by_cases hm0 : m = 0
      · have d2 : decide ((m : Int) < 1) = true := decide_eq_true (by omega)
        go_wp2_with fail
        refine ⟨⟨k + 1, by omega, rfl, ?_⟩, by simp only [intOf]; omega⟩
        rw [preP_next wd ht k _ HP.out, rowsP_none wd ht _ (by rw [← HM.out]; exact hm0), List.append_nil]
        exact HX.out _ _ _ HI.out (ext_alloc _ _)
      · have d2 : decide ((m : Int) < 1) = false := decide_eq_false (by omega)
        go_wp2_with fail
        have hr := heap_alloc_new wr (.cells #[.int .i64 (px : Int), .int .i64 (py : Int), .int .i64 (sx : Int), .int .i64 (sy : Int)] 70)
        have hi2 := HX.out _ _ _ HI.out (ext_alloc wr (.cells #[.int .i64 (px : Int), .int .i64 (py : Int), .int .i64 (sx : Int), .int .i64 (sy : Int)] 70))
        obtain ⟨g, hg⟩ : ∃ g, g = wr.heap.size := ⟨_, rfl⟩
        rw [← hg] at hr ⊢
        generalize wr.alloc (.cells #[.int .i64 (px : Int), .int .i64 (py : Int), .int .i64 (sx : Int), .int .i64 (sy : Int)] 70) = W at *
        have HR := Lib.hid hr
        have HI2 := Lib.hid hi2
        have hJ : ∃ J, J = manyP ht py sy := ⟨_, rfl⟩
        obtain ⟨J, hJ⟩ := hJ
        have hJ9 : J ≤ 1031 := by rw [hJ]; unfold manyP; exact Nat.le_trans (Nat.div_le_self _ _) (by omega)
        have HJ := Lib.hid hJ
        have hsy0 : 0 < sy := by omega
        simp only [eD]
        clear hr hi2 hg hJ HI eD kx d1 d2
        go_loopw [9] (fun v9 wi => ∃ j Y : Nat, j ≤ J ∧ v9 = .int .i64 (Y : Int) ∧ Y = py + j * sy ∧ Inv (preP wd ht k ++ (rowsP wd ht (px, py, sx, sy)).take j) wi ∧ wi.heap[g]? = some (.cells #[.int .i64 (px : Int), .int .i64 (py : Int), .int .i64 (sx : Int), .int .i64 (sy : Int)] 70)) (fun v9 _ => 1040 - (intOf v9).toNat)
        case atStart => exact ⟨0, py, Nat.zero_le _, rfl, by omega, by rw [List.take_zero, List.append_nil]; exact HI2.out, HR.out⟩
        case round =>
          obtain ⟨j, Y, hj, rfl, hY, hinv, hrow⟩ := hrel
          have HI3 := Lib.hid hinv
          have HY := Lib.hid hY
          have hlt : j < J ↔ Y < ht := by rw [HJ.out, hY]; exact many_lt ht py sy j hsy0 hpy hh1
          have y0 : wr.cell? ⟨g, 0, none⟩ = some (.int .i64 (px : Int)) := cell_of_row _ _ 0 _ _ _ hrow
          have y2 : wr.cell? ⟨g, 2, none⟩ = some (.int .i64 (sx : Int)) := cell_of_row _ _ 2 _ _ _ hrow
          have HROW := Lib.hid hrow
          clear hinv hY hrow HI2 HR
          by_cases hjJ : j < J
          · have hYh := hlt.mp hjJ
            have d3 : decide (Y < ht) = true := decide_eq_true hYh
            obtain ⟨yw, hyw⟩ : ∃ yw, yw = Y * wd := ⟨_, rfl⟩
            have hyw9 : yw ≤ 1024 * 1024 := by rw [hyw]; exact Nat.mul_le_mul (by omega) (by omega)
            have e2 : IntKind.i64.wrap ((Y : Int) * (wd : Int)) = (yw : Int) := by
              rw [← Int.natCast_mul, ← hyw, IntKind.wrap_i64]; omega
            obtain ⟨fr, hfr⟩ : ∃ fr, fr = yw + px := ⟨_, rfl⟩
            have e3 : IntKind.i64.wrap ((yw : Int) + (px : Int)) = (fr : Int) := by rw [IntKind.wrap_i64]; omega
            have hst : preP wd ht k ++ (rowsP wd ht (px, py, sx, sy)).take (j + 1) = (preP wd ht k ++ (rowsP wd ht (px, py, sx, sy)).take j) ++ [(fr, sx, m)] := by
              rw [List.append_assoc, rowsP_take wd ht (px, py, sx, sy) (by rw [← HM.out]; exact hm0) j (by rw [← HJ.out]; exact hjJ)]
              simp only
              rw [← HM.out, ← HY.out, ← hyw, ← hfr]
            have HST := Lib.hid hst
            have HC := Lib.hid (HS.out (preP wd ht k ++ (rowsP wd ht (px, py, sx, sy)).take j) fr sx m wr (by rw [← hst]; exact row_prefix wd ht k _ HP.out (j + 1)) HI3.out)
            clear hst hyw hfr hlt
            go_wp2_with fail
            refine HC.out.mono ?_
            rintro e wj ⟨rfl, hi4, hk4⟩
            have hrow4 := hk4 _ _ HROW.out
            rw [← HST.out] at hi4
            have HI4 := Lib.hid hi4
            have y3 : wj.cell? ⟨g, 3, none⟩ = some (.int .i64 (sy : Int)) := cell_of_row _ _ 3 _ _ _ hrow4
            have HROW4 := Lib.hid hrow4
            clear hi4 hk4 hrow4
            go_wp2_with fail
            exact ⟨⟨j + 1, Y + sy, by omega, rfl, by rw [HY.out, Nat.succ_mul]; omega, HI4.out, HROW4.out⟩, by simp only [intOf]; omega⟩
          · have d3 : decide (Y < ht) = false := decide_eq_false (fun h => hjJ (hlt.mpr h))
            obtain rfl : j = J := by omega
            have hall : preP wd ht k ++ (rowsP wd ht (px, py, sx, sy)).take j = preP wd ht (k + 1) := by
              rw [preP_next wd ht k _ HP.out, List.take_of_length_le (by rw [rowsP_len wd ht _ (by rw [← HM.out]; exact hm0), ← HJ.out]; exact Nat.le_refl _)]
            have hi5 := HI3.out
            rw [hall] at hi5
            have HI5 := Lib.hid hi5
            clear hall hi5 hlt
            go_wp2_with fail
            exact ⟨⟨k + 1, by omega, rfl, HI5.out⟩, by simp only [intOf]; omega⟩
    · obtain rfl : k = 7 := by omega
      go_wp2_with fail
      refine bodyPost_end (results_none rfl _ _ _) rfl ?_
      exact ⟨rfl, HI.out⟩
set_option maxRecDepth 100000 in
set_option maxHeartbeats 2000000 in
/-- the rows of all passes, each handed to the closure: what the closure keeps of the rows so far, it keeps of all -/
theorem rows_new (wd ht c : Nat) (hw1 : 1 ≤ wd) (hw2 : wd ≤ 1024) (hh1 : 1 ≤ ht) (hh2 : ht ≤ 1024) (Inv : List (Nat × Nat × Nat) → World → Prop)
    (hext : ∀ l w1 w2, Inv l w1 → Below w1.heap.size w1 w2 → Inv l w2)
    (hstep : ∀ l (a b m : Nat) w1, l ++ [(a, b, m)] <+: rowsL wd ht → Inv l w1 → Calls Try.prog 22 #[.int .i64 (a : Int), .int .i64 (b : Int), .int .i64 (m : Int), .pointer (some ⟨c, 0, none⟩)] w1 fun e w2 => e = .returned (.tuple #[]) ∧ Inv (l ++ [(a, b, m)]) w2 ∧ ∀ (g : Nat) (cs : Array Value), w1.heap[g]? = some (.cells cs 70) → w2.heap[g]? = some (.cells cs 70))
    (w : World) (h0 : Inv [] w) :
    Calls Try.prog 19 #[.int .i64 (wd : Int), .int .i64 (ht : Int), .func (.func 22) #[] #[.pointer (some ⟨c, 0, none⟩)]] w fun e w' => e = .returned (.tuple #[]) ∧ Inv (rowsL wd ht) w' := by
  have HX := Lib.hid hext
  have HS := Lib.hid hstep
  have H0 := Lib.hid h0
  clear hstep h0
  go_enter Try.func19, Try.ntmps19
  go_wp2_with fail
  refine (passes_any w).mono ?_
  rintro e w1 ⟨rfl, hb1⟩
  have H1 := Lib.hid (HX.out _ _ _ H0.out hb1)
  clear hb1 H0
  obtain ⟨PV, hPV⟩ : ∃ v, v = passesV := ⟨_, rfl⟩
  rw [← hPV]
  have HPV := Lib.hid hPV
  clear hPV
  go_wp2_with fail
  go_loopw [11] (fun v11 wr => ∃ k : Nat, k ≤ 7 ∧ v11 = .int .i64 (k : Int) ∧ Inv (preP wd ht k) wr) (fun v11 _ => 7 - (intOf v11).toNat)
  case atStart => exact ⟨0, by omega, rfl, H1.out⟩
  case round =>
    obtain ⟨k, hk, rfl, hinv⟩ := hrel
    have HI := Lib.hid hinv
    clear hinv H1
    by_cases hk7 : k < 7
    · have d1 : decide ((k : Int) < 7) = true := decide_eq_true (by omega)
      obtain ⟨px, py, sx, sy, hp, hpx, hpy, hsx, hsy⟩ := passesL_good k hk7
      have HP := Lib.hid hp
      clear hp
      have kx : ∀ w, (Instr.index 71 PV (.int .i64 (k : Int))).run Try.prog w = .ok (.agg #[.int .i64 (px : Int), .int .i64 (py : Int), .int .i64 (sx : Int), .int .i64 (sy : Int)]) w := fun w => by rw [HPV.out]; exact index_pass k px py sx sy hk7 HP.out w
      obtain ⟨m, hm⟩ : ∃ m, m = manyP wd px sx := ⟨_, rfl⟩
      have eD : ((wd : Int) - (px : Int) + (sx : Int) - 1) / (sx : Int) = (m : Int) := by
        rw [hm, show (wd : Int) - (px : Int) + (sx : Int) - 1 = ((wd + sx - 1 - px : Nat) : Int) by omega]
        exact (Int.natCast_ediv _ _).symm
      have HM := Lib.hid hm
      clear hm
      by_cases hm0 : m = 0
      · have d2 : decide ((m : Int) < 1) = true := decide_eq_true (by omega)
        go_wp2_with fail
        refine ⟨⟨k + 1, by omega, rfl, ?_⟩, by simp only [intOf]; omega⟩
        rw [preP_next wd ht k _ HP.out, rowsP_none wd ht _ (by rw [← HM.out]; exact hm0), List.append_nil]
        exact HX.out _ _ _ HI.out (ext_alloc _ _)
      · have d2 : decide ((m : Int) < 1) = false := decide_eq_false (by omega)
        go_wp2_with fail
        have hr := heap_alloc_new wr (.cells #[.int .i64 (px : Int), .int .i64 (py : Int), .int .i64 (sx : Int), .int .i64 (sy : Int)] 70)
        have hi2 := HX.out _ _ _ HI.out (ext_alloc wr (.cells #[.int .i64 (px : Int), .int .i64 (py : Int), .int .i64 (sx : Int), .int .i64 (sy : Int)] 70))
        obtain ⟨g, hg⟩ : ∃ g, g = wr.heap.size := ⟨_, rfl⟩
        rw [← hg] at hr ⊢
        generalize wr.alloc (.cells #[.int .i64 (px : Int), .int .i64 (py : Int), .int .i64 (sx : Int), .int .i64 (sy : Int)] 70) = W at *
        have HR := Lib.hid hr
        have HI2 := Lib.hid hi2
        have hJ : ∃ J, J = manyP ht py sy := ⟨_, rfl⟩
        obtain ⟨J, hJ⟩ := hJ
        have hJ9 : J ≤ 1031 := by rw [hJ]; unfold manyP; exact Nat.le_trans (Nat.div_le_self _ _) (by omega)
        have HJ := Lib.hid hJ
        have hsy0 : 0 < sy := by omega
        simp only [eD]
        clear hr hi2 hg hJ HI eD kx d1 d2
        go_loopw [9] (fun v9 wi => ∃ j Y : Nat, j ≤ J ∧ v9 = .int .i64 (Y : Int) ∧ Y = py + j * sy ∧ Inv (preP wd ht k ++ (rowsP wd ht (px, py, sx, sy)).take j) wi ∧ wi.heap[g]? = some (.cells #[.int .i64 (px : Int), .int .i64 (py : Int), .int .i64 (sx : Int), .int .i64 (sy : Int)] 70)) (fun v9 _ => 1040 - (intOf v9).toNat)
        case atStart => exact ⟨0, py, Nat.zero_le _, rfl, by omega, by rw [List.take_zero, List.append_nil]; exact HI2.out, HR.out⟩
        case round =>
          obtain ⟨j, Y, hj, rfl, hY, hinv, hrow⟩ := hrel
          have HI3 := Lib.hid hinv
          have HY := Lib.hid hY
          have hlt : j < J ↔ Y < ht := by rw [HJ.out, hY]; exact many_lt ht py sy j hsy0 hpy hh1
          have y0 : wr.cell? ⟨g, 0, none⟩ = some (.int .i64 (px : Int)) := cell_of_row _ _ 0 _ _ _ hrow
          have y2 : wr.cell? ⟨g, 2, none⟩ = some (.int .i64 (sx : Int)) := cell_of_row _ _ 2 _ _ _ hrow
          have HROW := Lib.hid hrow
          clear hinv hY hrow HI2 HR
          by_cases hjJ : j < J
          · have hYh := hlt.mp hjJ
            have d3 : decide (Y < ht) = true := decide_eq_true hYh
            obtain ⟨yw, hyw⟩ : ∃ yw, yw = Y * wd := ⟨_, rfl⟩
            have hyw9 : yw ≤ 1024 * 1024 := by rw [hyw]; exact Nat.mul_le_mul (by omega) (by omega)
            have e2 : IntKind.i64.wrap ((Y : Int) * (wd : Int)) = (yw : Int) := by
              rw [← Int.natCast_mul, ← hyw, IntKind.wrap_i64]; omega
            obtain ⟨fr, hfr⟩ : ∃ fr, fr = yw + px := ⟨_, rfl⟩
            have e3 : IntKind.i64.wrap ((yw : Int) + (px : Int)) = (fr : Int) := by rw [IntKind.wrap_i64]; omega
            have hst : preP wd ht k ++ (rowsP wd ht (px, py, sx, sy)).take (j + 1) = (preP wd ht k ++ (rowsP wd ht (px, py, sx, sy)).take j) ++ [(fr, sx, m)] := by
              rw [List.append_assoc, rowsP_take wd ht (px, py, sx, sy) (by rw [← HM.out]; exact hm0) j (by rw [← HJ.out]; exact hjJ)]
              simp only
              rw [← HM.out, ← HY.out, ← hyw, ← hfr]
            have HST := Lib.hid hst
            have HC := Lib.hid (HS.out (preP wd ht k ++ (rowsP wd ht (px, py, sx, sy)).take j) fr sx m wr (by rw [← hst]; exact row_prefix wd ht k _ HP.out (j + 1)) HI3.out)
            clear hst hyw hfr hlt
            go_wp2_with fail
            refine HC.out.mono ?_
            rintro e wj ⟨rfl, hi4, hk4⟩
            have hrow4 := hk4 _ _ HROW.out
            rw [← HST.out] at hi4
            have HI4 := Lib.hid hi4
            have y3 : wj.cell? ⟨g, 3, none⟩ = some (.int .i64 (sy : Int)) := cell_of_row _ _ 3 _ _ _ hrow4
            have HROW4 := Lib.hid hrow4
            clear hi4 hk4 hrow4
            go_wp2_with fail
            exact ⟨⟨j + 1, Y + sy, by omega, rfl, by rw [HY.out, Nat.succ_mul]; omega, HI4.out, HROW4.out⟩, by simp only [intOf]; omega⟩
          · have d3 : decide (Y < ht) = false := decide_eq_false (fun h => hjJ (hlt.mpr h))
            obtain rfl : j = J := by omega
            have hall : preP wd ht k ++ (rowsP wd ht (px, py, sx, sy)).take j = preP wd ht (k + 1) := by
              rw [preP_next wd ht k _ HP.out, List.take_of_length_le (by rw [rowsP_len wd ht _ (by rw [← HM.out]; exact hm0), ← HJ.out]; exact Nat.le_refl _)]
            have hi5 := HI3.out
            rw [hall] at hi5
            have HI5 := Lib.hid hi5
            clear hall hi5 hlt
            go_wp2_with fail
            exact ⟨⟨k + 1, by omega, rfl, HI5.out⟩, by simp only [intOf]; omega⟩
    · obtain rfl : k = 7 := by omega
      go_wp2_with fail
      refine bodyPost_end (results_none rfl _ _ _) rfl ?_
      exact ⟨rfl, HI.out⟩
end Go.Proofs.Ytighlefajekloaa.PngA

/- Package png: Order. -/
set_option linter.unusedVariables false
set_option linter.unusedSimpArgs false
namespace Go.Proofs.Ytighlefajekloaa.PngB
open Go.RowKit Base Low PngM PngN PngA NumSl
theorem ints : NumSlice Try.prog 23 3 .i64 8 := numSlice Try.underlying23 (by kernel_rfl)
def Ty (E : TypeId) (w : World) (b : Nat) : Prop := ∃ cs fr, w.heap[b]? = some (.cells cs E fr)
theorem own_ty {k : IntKind} {N E base : Nat} {w : World} {v : Value} {l : List Nat} (h : Own k N E base w v l) : ∀ b, v.ownBlock = some b → Ty E w b := by
  intro b hb
  rcases h.row.2 with ⟨e, -⟩ | ⟨g, c, cur, e, -, hg, -⟩
  · rw [e] at hb; cases hb
  · rw [e] at hb
    simp only [Value.ownBlock, Option.some.injEq] at hb
    subst hb
    exact ⟨_, _, hg⟩
theorem ty_ne {E T : TypeId} {w : World} {b g : Nat} {cs : Array Value} {fr : Nat × Nat} (h : Ty E w b) (hg : w.heap[g]? = some (.cells cs T fr)) (hne : E ≠ T) : ¬ b = g := by
  rintro rfl
  obtain ⟨cs2, fr2, h1⟩ := h
  rw [h1] at hg
  simp only [Option.some.injEq, Obj.cells.injEq] at hg
  exact hne hg.2.1
/-- the rows of a pass that the walk has laid are left alone -/
def K4 (w w' : World) : Prop := ∀ (g : Nat) (cs : Array Value), w.heap[g]? = some (.cells cs 70) → w'.heap[g]? = some (.cells cs 70)
theorem K4.refl (w : World) : K4 w w := fun _ _ h => h
theorem K4.trans {w w1 w2 : World} (h1 : K4 w w1) (h2 : K4 w1 w2) : K4 w w2 := fun g cs h => h2 g cs (h1 g cs h)
theorem K4.keeps {S : Nat → Prop} {w w1 : World} (h : Keeps S w w1) (hS : ∀ k, S k → ∃ E, E ≠ 70 ∧ Ty E w k) : K4 w w1 := by
  intro g cs hg
  rw [h.block g (lt_of_heap hg) (fun hs => by
    obtain ⟨E, hne, ht⟩ := hS g hs
    exact ty_ne ht hg hne rfl)]
  exact hg
/-- a place that holds a row of the numbers told so far -/
structure OrdI (base c : Nat) (w0 : World) (l : List Nat) (w : World) (v : Value) : Prop where
  cell : w.heap[c]? = some (.cells #[v] 23)
  own : Own .i64 1048576 3 base w v l
  below : Below base w0 w
  low : base ≤ c
  base : base ≤ w0.heap.size
theorem OrdI.le {base c : Nat} {w0 : World} {l : List Nat} {w : World} {v : Value} (h : OrdI base c w0 l w v) : base ≤ w.heap.size := Nat.le_trans h.base h.below.size
theorem OrdI.ext {base c : Nat} {w0 : World} {l : List Nat} {w w' : World} {v : Value} (h : OrdI base c w0 l w v) (hb : Below w.heap.size w w') : OrdI base c w0 l w' v :=
  ⟨(hb.block c (lt_of_heap h.cell)).trans h.cell, h.own.below hb (Nat.le_refl _), h.below.trans (hb.mono h.le), h.low, h.base⟩
set_option maxRecDepth 100000 in
set_option maxHeartbeats 2000000 in
theorem step_any (base c : Nat) (w0 : World) (L : List Nat) (a b m : Nat) (w : World) (v : Value) (h : OrdI base c w0 L w v) (hm : m ≤ 1024) (hb : b ≤ 8) (hL : L.length ≤ 8000000)
    (hx : ∀ i, i < m → a + i * b < 1048576) :
    Calls Try.prog 20 #[.int .i64 (a : Int), .int .i64 (b : Int), .int .i64 (m : Int), .pointer (some ⟨c, 0, none⟩)] w fun e w2 => e = .returned (.tuple #[]) ∧ (∃ v2, OrdI base c w0 (L ++ (List.range m).map fun i => a + i * b) w2 v2) ∧ K4 w w2 := by
  have HI := Lib.hid h
  have HX := Lib.hid hx
  clear h hx
  go_enter Try.func20, Try.ntmps20
  go_wp2_with fail
  go_loopw [9] (fun v9 wr => ∃ (i : Nat) (vi : Value), i ≤ m ∧ v9 = .int .i64 (i : Int) ∧ OrdI base c w0 (L ++ (List.range i).map fun i => a + i * b) wr vi ∧ K4 w wr) (fun v9 _ => 1024 - (intOf v9).toNat)
  case atStart =>
    have h0 := HI.out
    rw [← List.append_nil L, ← pix_zero a b 0] at h0
    exact ⟨0, v, Nat.zero_le _, rfl, h0, K4.refl _⟩
  case round =>
    obtain ⟨i, vi, hi, rfl, hoi, hk4⟩ := hrel
    have HOI := Lib.hid hoi
    have HK4 := Lib.hid hk4
    clear hoi hk4 HI
    by_cases hlt : i < m
    · have d1 : decide (i < m) = true := decide_eq_true hlt
      have hxi := HX.out i hlt
      obtain ⟨ib, hib⟩ : ∃ ib, ib = i * b := ⟨_, rfl⟩
      rw [← hib] at hxi
      have e1 : IntKind.i64.wrap ((i : Int) * (b : Int)) = (ib : Int) := by
        rw [← Int.natCast_mul, ← hib, IntKind.wrap_i64]; omega
      obtain ⟨x, hx⟩ : ∃ x, x = a + ib := ⟨_, rfl⟩
      have e2 : IntKind.i64.wrap ((a : Int) + (ib : Int)) = (x : Int) := by rw [IntKind.wrap_i64]; omega
      have hx9 : x < 1048576 := by omega
      have HN := Lib.hid (show L ++ (List.range (i + 1)).map (fun i => a + i * b) = (L ++ (List.range i).map fun i => a + i * b) ++ [x] by rw [pix_next, List.append_assoc, hx, hib])
      obtain ⟨M, hM⟩ : ∃ M, M = L ++ (List.range i).map (fun i => a + i * b) := ⟨_, rfl⟩
      have hML : M.length ≤ 9000000 := by rw [hM]; simp; omega
      rw [← hM] at HN HOI
      have y0 : wr.cell? ⟨c, 0, none⟩ = some vi := cell_of_row _ _ 0 _ _ _ HOI.out.cell
      have HN1 := Lib.hid (nums_one .i64 1048576 3 wr x hx9)
      have hba := ext_alloc wr (.cells #[.int .i64 (x : Int)] 3)
      have HOI2 := Lib.hid (HOI.out.ext hba)
      have hk1 : K4 wr (wr.alloc (.cells #[.int .i64 (x : Int)] 3)) := fun g cs hg => (hba.block g (lt_of_heap hg)).trans hg
      have HK1 := Lib.hid (HK4.out.trans hk1)
      have hbs : base ≤ (wr.alloc (.cells #[.int .i64 (x : Int)] 3)).heap.size := HOI2.out.le
      have HL1 := Lib.hid (show (M.length + [x].length) * 8 ≤ 140737488355328 by simp; omega)
      have HL2 := Lib.hid (show M.length + [x].length ≤ 140737488355328 by simp; omega)
      clear hib hx hM hML hba hk1 hx9
      go_wp2_with (at_builtin; refine wpList_append_nums_at rfl (.tmp 12) (.tmp 18) 23 3 rfl .i64 1048576 8 base ints vi M rfl HOI2.out.own _ [x] rfl HN1.out HL1.out HL2.out hbs ?_; intro v4 w4 ho4 hg4 hf4; obtain ⟨a4, n4, c4, rfl⟩ := ho4.slice_; have HO4 := Lib.hid ho4; have HG4 := Lib.hid ((Keeps.refl (fun k => vi.ownBlock = some k) _).grown hg4 (fun k hk => .inl hk)); clear ho4 hg4 hf4; have hc4 := (HG4.out.block c (lt_of_heap HOI2.out.cell) (fun e => ty_ne (own_ty HOI2.out.own c e) HOI2.out.cell (by decide) rfl)).trans HOI2.out.cell; have y4 : w4.cell? ⟨c, 0, none⟩ = some vi := cell_of_row _ _ 0 _ _ _ hc4; have f4 := frozen_of_row _ _ 0 _ _ hc4; have HC4 := Lib.hid hc4; clear hc4)
      have hk := (Keeps.refl (fun b => b = c) w4).setCell c 0 (.slice a4 n4 c4) (.inl rfl)
      have hb4 : Below base w0 w4 := HOI2.out.below.trans (HG4.out.below base hbs (fun k e => (HOI2.out.own.row.lt k e).1))
      have hs4 : base ≤ w4.heap.size := Nat.le_trans HOI2.out.base hb4.size
      refine ⟨⟨i + 1, _, by omega, rfl, ⟨heap_setCell_same w4 c 0 _ _ (.slice a4 n4 c4) HC4.out, ?_, hb4.trans (hk.below base hs4 (fun b e => by rw [e]; exact HOI2.out.low)), HOI2.out.low, HOI2.out.base⟩, ?_⟩, by simp only [intOf]; omega⟩
      · rw [HN.out]
        exact HO4.out.frame hk (fun k e => ty_ne (own_ty HO4.out k e) HC4.out (by decide))
      · refine HK1.out.trans (K4.trans (K4.keeps HG4.out (fun k e => ⟨_, by decide, own_ty HOI2.out.own k e⟩)) (K4.keeps hk (fun k e => ⟨23, by decide, by rw [e]; exact ⟨_, _, HC4.out⟩⟩)))
    · obtain rfl : i = m := by omega
      have d1 : decide (i < i) = false := decide_eq_false hlt
      go_wp2_with fail
      refine bodyPost_end (results_none rfl _ _ _) rfl ?_
      exact ⟨rfl, ⟨vi, HOI.out⟩, HK4.out⟩
theorem right_any (x y : Int) (w : World) : Calls Try.prog 18 #[.int .i64 x, .int .i64 y] w fun e w' => e = .returned (.bool (decide (1 ≤ x ∧ x ≤ 1024 ∧ 1 ≤ y ∧ y ≤ 1024))) ∧ w = w' := by
  go_enter Try.func18, Try.ntmps18
  by_cases h1 : 1 ≤ x <;> by_cases h2 : x ≤ 1024 <;> by_cases h3 : 1 ≤ y <;> by_cases h4 : y ≤ 1024
  all_goals
    go_wp2_with fail
    go_ret
    simp [h1, h2, h3, h4]
theorem right_yes (a b : Nat) (ha1 : 1 ≤ a) (ha2 : a ≤ 1024) (hb1 : 1 ≤ b) (hb2 : b ≤ 1024) (w : World) : Calls Try.prog 18 #[.int .i64 (a : Int), .int .i64 (b : Int)] w fun e w' => e = .returned (.bool true) ∧ w = w' := by
  have := right_any (a : Int) (b : Int) w
  rw [decide_eq_true (by omega)] at this
  exact this
theorem right_no (x y : Int) (h : ¬ (1 ≤ x ∧ x ≤ 1024 ∧ 1 ≤ y ∧ y ≤ 1024)) (w : World) : Calls Try.prog 18 #[.int .i64 x, .int .i64 y] w fun e w' => e = .returned (.bool false) ∧ w = w' := by
  have := right_any x y w
  rw [decide_eq_false h] at this
  exact this
theorem order_no (x y : Int) (h : ¬ (1 ≤ x ∧ x ≤ 1024 ∧ 1 ≤ y ∧ y ≤ 1024)) (w : World) : Calls Try.prog 9 #[.int .i64 x, .int .i64 y] w fun e w' => e = .returned (.slice none 0 0) ∧ w = w' := by
  go_enter Try.func9, Try.ntmps9
  go_wp2_with fail
  refine (right_no x y h w).mono ?_
  rintro e w1 ⟨rfl, rfl⟩
  go_wp2_with fail
  go_ret
  exact ⟨rfl, rfl⟩
set_option maxRecDepth 100000 in
set_option maxHeartbeats 1000000 in
theorem order_any (a b : Nat) (ha1 : 1 ≤ a) (ha2 : a ≤ 1024) (hb1 : 1 ≤ b) (hb2 : b ≤ 1024) (w : World) : Calls Try.prog 9 #[.int .i64 (a : Int), .int .i64 (b : Int)] w fun e w' => ∃ v, e = .returned v ∧ Own .i64 1048576 3 w.heap.size w' v (orderL a b) ∧ Below w.heap.size w w' := by
  obtain ⟨n, hn⟩ : ∃ n, n = a * b := ⟨_, rfl⟩
  have hn9 : n ≤ 1024 * 1024 := by rw [hn]; exact Nat.mul_le_mul ha2 hb2
  have e1 : IntKind.i64.wrap ((a : Int) * (b : Int)) = (n : Int) := by rw [← Int.natCast_mul, ← hn, IntKind.wrap_i64]; omega
  have HN := Lib.hid hn
  clear hn
  go_enter Try.func9, Try.ntmps9
  go_wp2_with fail
  refine (right_yes a b ha1 ha2 hb1 hb2 w).mono ?_
  rintro e w1 ⟨rfl, rfl⟩
  obtain ⟨i, hi, hz, h1, h2⟩ := ints.info
  have HQ1 := Lib.hid (show i.bytes * n ≤ 281474976710656 by rw [h2]; omega)
  have HQ2 := Lib.hid (show n ≤ maxLen by unfold maxLen; omega)
  go_upto_region 4 with (refine wpList_make_own w rfl (.const (.int .i64 0)) (.tmp 12) 23 rfl w.heap.size 3 i (.int .i64 0) 1 Try.underlying23 hi hz h1 .i64 .i64 (n : Int) n rfl rfl rfl HQ1.out HQ2.out (Nat.le_refl _) ?_; intro w2 ho2 hg2; have HO2 := Lib.hid ho2; have HG2 := Lib.hid hg2; clear ho2 hg2)
  obtain ⟨v0, hv0⟩ : ∃ v, v = Value.slice (some { block := w.heap.size, off := 0 }) 0 n := ⟨_, rfl⟩
  obtain ⟨c, hc⟩ : ∃ c, c = w2.heap.size := ⟨_, rfl⟩
  have hr3 := heap_alloc_new w2 (.cells #[v0] 23)
  have hx3 := ext_alloc w2 (.cells #[v0] 23)
  have hb2 : Below w.heap.size w w2 := ((Keeps.refl (fun _ => False) w).grown HG2.out (fun k hk => by cases hk)).below _ (Nat.le_refl _) (fun _ h => h.elim)
  have ho2 := HO2.out
  rw [← hv0] at ho2
  rw [← hv0, ← hc]
  rw [← hc] at hr3
  have ho3 : Own .i64 1048576 3 w.heap.size w2 v0 [] := ⟨ho2, by simp⟩
  generalize w2.alloc (.cells #[v0] 23) = w3 at *
  have HI := Lib.hid (show OrdI w.heap.size c w [] w3 v0 from ⟨hr3, ho3.below hx3 (Nat.le_refl _), hb2.trans (hx3.mono hb2.size), by rw [hc]; exact hb2.size, Nat.le_refl _⟩)
  clear hv0 hc hr3 hx3 hb2 ho2 ho3 HG2 HO2 HQ1 HQ2 hi hz h1 h2
  go_wp2_with fail
  refine (rows_order a b c ha1 ha2 hb1 hb2 (fun l wx => ∃ v, OrdI w.heap.size c w (l.flatMap pixR) wx v) (fun l w1 w2 ⟨v, h⟩ hb => ⟨v, h.ext hb⟩) (fun l x y m w1 hl ⟨v, h⟩ => ?_) w3 ⟨v0, HI.out⟩).mono ?_
  · obtain ⟨hm1, hm2, -, hm3⟩ := rows_mem a b x y m ha1 hb1 (hl.subset (by simp))
    have hpl := pre_len a b ha1 hb1 l ((List.prefix_append _ _).trans hl)
    have hp9 : 7 * b * a ≤ 7 * 1024 * 1024 := Nat.mul_le_mul (by omega) ha2
    have hab : a * b ≤ 1024 * 1024 := Nat.mul_le_mul ha2 hb2
    refine (step_any w.heap.size c w (l.flatMap pixR) x y m w1 v h (by omega) hm2 (by omega) (fun i hi => by have := hm3 i hi; omega)).mono ?_
    rintro e w4 ⟨rfl, ⟨v4, h4⟩, hk⟩
    refine ⟨rfl, ⟨v4, ?_⟩, hk⟩
    rw [flat_next]
    exact h4
  · rintro e w4 ⟨rfl, v4, h4⟩
    have HO := Lib.hid h4.own
    have HB := Lib.hid h4.below
    have y0 : w4.cell? ⟨c, 0, none⟩ = some v4 := cell_of_row _ _ 0 _ _ _ h4.cell
    clear h4
    go_wp2_with fail
    go_ret
    exact ⟨v4, rfl, HO.out, HB.out⟩
end Go.Proofs.Ytighlefajekloaa.PngB

/- 'm.list = append(m.list, f(..))' as a region that draws its order: the chain of the built slice and the append. No program is named here. -/
set_option linter.unusedVariables false
set_option linter.unusedSimpArgs false
namespace Go.Proofs.Ytighlefajekloaa.Qx
open Go.RowKit Go.Sort Base Qb Qt Qw Rec

/-- how far the region has come -/
inductive Ph where
  | pm
  | p0
  | p1 (gs : Nat)
  | p2 (v : Value)
section
variable {α : Type} {c : Nat} {enc : α → List Value} {E base base2 : Nat} {Jm J : World → Prop} {vp : Value} {lp : List α} {q : α} {row : Array Value}
/-- the state: Jm ahead of the call that writes, J behind it -/
def PhD (c : Nat) (enc : α → List Value) (E base base2 : Nat) (Jm J : World → Prop) (vp : Value) (lp : List α) (q : α) (row : Array Value) (s : Ph) (w : World) : Prop :=
  match s with
  | .pm => Jm w ∧ RecsOwn c enc E base w vp lp
  | .p0 => J w ∧ RecsOwn c enc E base w vp lp
  | .p1 gs => J w ∧ RecsOwn c enc E base w vp lp ∧ w.heap[gs]? = some (.cells row E)
  | .p2 v => J w ∧ RecsOwn c enc E base w v (lp ++ [q]) ∧ (v.ownBlock = vp.ownBlock ∨ ∀ b, v.ownBlock = some b → base2 ≤ b)
theorem PhD.step (hm : ∀ w w', Jm w → Below w.heap.size w w' → Jm w') (hj : ∀ w w', J w → Below w.heap.size w w' → J w') (s : Ph) (w w' : World) (h : PhD c enc E base base2 Jm J vp lp q row s w) (hb : Below w.heap.size w w') : PhD c enc E base base2 Jm J vp lp q row s w' := by
  cases s with
  | pm => exact ⟨hm _ _ h.1 hb, h.2.below hb (Nat.le_refl _)⟩
  | p0 => exact ⟨hj _ _ h.1 hb, h.2.below hb (Nat.le_refl _)⟩
  | p1 gs => exact ⟨hj _ _ h.1 hb, h.2.1.below hb (Nat.le_refl _), (hb.block gs (lt_of_heap h.2.2)).trans h.2.2⟩
  | p2 v => exact ⟨hj _ _ h.1 hb, h.2.1.below hb (Nat.le_refl _), h.2.2⟩
theorem Chain.app {P : Program} {ops : Array Oper} {T bytes kb ka : Nat} {a : Act} {ob oa : Oper} {z : Value} {K : Act → Ph → Prop} (hT : RecSlice P T E c enc z bytes)
    (hj : ∀ w w', J w → Below w.heap.size w w' → J w') (hg : ∀ w w', J w → RecsOwn c enc E base w vp lp → w.grownBy w' vp.ownBlock → J w') (hbase : ∀ w, J w → base ≤ w.heap.size) (hbase2 : ∀ w, J w → base2 ≤ w.heap.size)
    (hrow : row.toList = enc q) (hlen : (lp.length + 1) * bytes ≤ 140737488355328) (hlen2 : lp.length + 1 ≤ 140737488355328)
    (hob : ops[kb]? = some ob) (hwb : Region.wanted ob (yielded ops a.tmps) = true) (hrb : ∀ w, (execOp a.eval ob).run P w = .ok (.value (.slice (some ⟨w.heap.size, 0, none⟩) 1 1)) (w.alloc (.cells row E)))
    (hoa : ops[ka]? = some oa) (hga : oa.guard = none) (s x : Operand) (hop : oa.op = .call { callee := .builtin .append, args := #[s, x], argTypes := #[T, T] })
    (hs : ∀ gs, (a.put ob.dst (.slice (some ⟨gs, 0, none⟩) 1 1)).eval s = vp) (hx : ∀ gs, (a.put ob.dst (.slice (some ⟨gs, 0, none⟩) 1 1)).eval x = .slice (some ⟨gs, 0, none⟩) 1 1)
    (hK : ∀ gs v, K ((a.put ob.dst (.slice (some ⟨gs, 0, none⟩) 1 1)).put oa.dst v) (.p2 v)) : Chain P ops (PhD c enc E base base2 Jm J vp lp q row) K [kb, ka] a .p0 := by
  refine ⟨ob, hob, hwb, fun u s => ∃ gs, u = .slice (some ⟨gs, 0, none⟩) 1 1 ∧ s = .p1 gs, fun w hD => ?_, ?_⟩
  · rw [hrb w]
    obtain ⟨h1, h2⟩ := hD
    exact ⟨.p1 w.heap.size, ⟨_, rfl, rfl⟩, hj _ _ h1 (ext_alloc w _), h2.below (ext_alloc w _) (Nat.le_refl _), heap_alloc_new _ _⟩
  · rintro u s' ⟨gs, rfl, rfl⟩
    refine ⟨oa, hoa, by simp [Region.wanted, hga], fun v s => s = .p2 v, fun w hD => ?_, ?_⟩
    · obtain ⟨h1, h2, h3⟩ := hD
      obtain ⟨i, hi, hz, hs1, hs2⟩ := hT.info
      have hone : ∀ y ∈ [q].flatMap enc, y.oneCell' = true := by intro y hy; simp only [List.flatMap_cons, List.flatMap_nil, List.append_nil] at hy; exact hT.one q y hy
      have hnews : ∀ j (y : Value), ([q].flatMap enc)[j]? = some y → w.cell? ((⟨gs, 0, none⟩ : Addr).add j) = some y := by
        intro j y hj
        simp only [List.flatMap_cons, List.flatMap_nil, List.append_nil] at hj
        rw [add_flat, cell_of_row w gs _ row _ _ h3, ← hj, ← hrow, Nat.zero_add]; simp
      obtain ⟨v', w', hrun, r1, r2, _, r3⟩ := run_append_own_at (P := P) (w := w) base T oa.type E i z c bytes hT.und hi hz hs1 hs2 hT.zone hT.pos vp lp.length (lp.flatMap enc) h2.row ⟨gs, 0, none⟩ 1 1 ([q].flatMap enc) (by simp [hT.len q]) hnews hone (by unfold maxLen; omega) hlen (hbase w h1)
      have he : (execOp (a.put ob.dst (.slice (some ⟨gs, 0, none⟩) 1 1)).eval oa).run P w = .ok (.value v') w' := by
        simp [execOp, hop, resolve, invoke, builtin, hs gs, hx gs, hrun, Result.andThen]
      rw [he]
      refine ⟨.p2 v', rfl, hg _ _ h1 h2 r2, ⟨?_⟩, ?_⟩
      · rw [List.length_append, List.flatMap_append]; exact r1
      · rcases r3 with e | e
        · exact .inl e
        · refine .inr fun b hb => ?_
          rw [e] at hb; simp only [Option.some.injEq] at hb
          have := hbase2 w h1; omega
    · rintro v s' rfl
      exact hK gs v
end
end Go.Proofs.Ytighlefajekloaa.Qx

/- Package png: New, Left. Printed by mkpngg.py. -/
set_option linter.unusedVariables false
set_option linter.unusedSimpArgs false
namespace Go.Proofs.Ytighlefajekloaa.PngG
open Go.RowKit Go.Sort Base Low NumSl DefS SumsM Rec Qb Qt Qw Qx PngM PngN PngA PngB PngC PngD PngE PngF
def encI (x : Nat) : List Value := [.int .i64 (x : Int)]
theorem intsR : RecSlice Try.prog 23 3 1 encI (.int .i64 0) 8 := recSlice Try.underlying23 (by kernel_rfl) rfl (fun x u hu => by simp only [encI, List.mem_singleton] at hu; subst hu; rfl) (fun _ => rfl) (by omega)
theorem encI_flat (l : List Nat) : l.flatMap encI = numCells .i64 l := by
  induction l with
  | nil => rfl
  | cons x l ih => rw [List.flatMap_cons, ih]; rfl
theorem own_recsI {N E base : Nat} {w : World} {v : Value} {l : List Nat} (h : Own .i64 N E base w v l) : RecsOwn 1 encI E base w v l := ⟨by rw [encI_flat]; exact h.row⟩
theorem recs_ownI {N E base : Nat} {w : World} {v : Value} {l : List Nat} (h : RecsOwn 1 encI E base w v l) (hb : ∀ x ∈ l, x < N) : Own .i64 N E base w v l := ⟨by rw [← encI_flat]; exact h.row, hb⟩
theorem buildI_one (w : World) (a : Int) (A : Act) (o : Oper) (x : Operand) (ho : o.op = .buildSlice 23 1 #[(0, x)]) (hx : A.eval x = .int .i64 a) :
    (execOp A.eval o).run Try.prog w = .ok (.value (.slice (some ⟨w.heap.size, 0, none⟩) 1 1)) (w.alloc (.cells #[.int .i64 a] 3)) := by
  have e : (Instr.buildSlice 23 1 #[(0, .int .i64 a)]).run Try.prog w = .ok (.slice (some ⟨w.heap.size, 0, none⟩) 1 1) (w.alloc (.cells #[.int .i64 a] 3)) := by kernel_rfl
  simp only [execOp, ho]
  simp [hx, e, Result.andThen]
/-- an encoder under way, as its own closure sees it -/
structure NI (base c g : Nat) (w0 w : World) (v : Value) (l : List Nat) (wd ht lf : Nat) (st : Value) : Prop where
  cc : w.heap[c]? = some (.cells #[.pointer (some ⟨g, 0, none⟩)] 29)
  row : w.heap[g]? = some (.cells #[.bool true, .int .i64 (wd : Int), .int .i64 (ht : Int), .int .i64 (lf : Int), v, .int .i64 0, st] 49)
  own : Own .i64 1048576 3 base w v l
  below : Below base w0 w
  low : base ≤ g
  base : base ≤ w0.heap.size
theorem NI.le {base c g : Nat} {w0 w : World} {v : Value} {l : List Nat} {wd ht lf : Nat} {st : Value} (h : NI base c g w0 w v l wd ht lf st) : base ≤ w.heap.size := Nat.le_trans h.base h.below.size
theorem NI.ext {base c g : Nat} {w0 w w' : World} {v : Value} {l : List Nat} {wd ht lf : Nat} {st : Value} (h : NI base c g w0 w v l wd ht lf st) (hb : Below w.heap.size w w') : NI base c g w0 w' v l wd ht lf st :=
  ⟨(hb.block c (lt_of_heap h.cc)).trans h.cc, (hb.block g (lt_of_heap h.row)).trans h.row, h.own.below hb (Nat.le_refl _), h.below.trans (hb.mono h.le), h.low, h.base⟩
set_option maxRecDepth 100000 in
set_option maxHeartbeats 2000000 in
theorem grow_step (base c g : Nat) (w0 w : World) (v : Value) (l : List Nat) (wd ht lf : Nat) (st : Value) (h : NI base c g w0 w v l wd ht lf st) (x y : Int) (m : Nat) (hm : m < 1048576) (hl : l.length ≤ 1000000) :
    Calls Try.prog 22 #[.int .i64 x, .int .i64 y, .int .i64 (m : Int), .pointer (some ⟨c, 0, none⟩)] w fun e w2 => e = .returned (.tuple #[]) ∧ (∃ v2, NI base c g w0 w2 v2 (l ++ [m]) wd ht lf st) ∧ K4 w w2 := by
  have HI := Lib.hid h
  have hcg : ¬ c = g := by
    intro e
    have h1 := h.cc
    rw [e, h.row] at h1
    simp at h1
  have HJ := Lib.hid (show ∀ w1 w2 : World, Keeps (fun k => v.ownBlock = some k) w w1 → Below w1.heap.size w1 w2 → Keeps (fun k => v.ownBlock = some k) w w2 from fun w1 w2 h hb => h.trans (Keeps.of_ext hb (fun _ => False)) (fun _ h => h.elim))
  have HVC := Lib.hid (fun k (hk : v.ownBlock = some k) => show ¬ k = c from ty_ne (own_ty h.own k hk) h.cc (by decide))
  have HVG := Lib.hid (fun k (hk : v.ownBlock = some k) => show ¬ k = g from ty_ne (own_ty h.own k hk) h.row (by decide))
  have HS0 := Lib.hid (show PhD 1 encI 3 base w.heap.size (Keeps (fun k => v.ownBlock = some k) w) (Keeps (fun k => v.ownBlock = some k) w) v l m #[.int .i64 (m : Int)] .p0 w from ⟨Keeps.refl _ _, own_recsI h.own⟩)
  have hbw := h.le
  clear h
  go_enter Try.func22, Try.ntmps22
  refine wp_region_writes 8 [0, 1, 2, 3, 4, 5] [6, 7] (PhD 1 encI 3 base w.heap.size (Keeps (fun k => v.ownBlock = some k) w) (Keeps (fun k => v.ownBlock = some k) w) v l m #[.int .i64 (m : Int)]) .p0 (by kernel_rfl) (by kernel_rfl) (PhD.step HJ.out HJ.out _ _ _ HS0.out ⟨rfl, rfl, rfl, Nat.le_refl _, fun _ _ => rfl⟩) ?_
  refine Qw.Walk.step (A := ?A0) (o := ?o0) (fun s w w2 h hb => PhD.step HJ.out HJ.out s w w2 h hb) Ph.p0 w HS0.out ?e0 ?w0 7 ?d0 (by simp) ?h0 ?n0
  case e0 => simp only [List.getElem?_toArray, List.getElem?_cons_succ, List.getElem?_cons_zero]; exact rfl
  case w0 => exact rfl
  case d0 => exact rfl
  case h0 =>
    intro s9 w9 h9
    have hJ9 : Keeps (fun k => v.ownBlock = some k) w w9 := by cases s9 <;> exact h9.1
    have z1 : ∀ d os, (grow (redrawn w9 d) os).cell? ⟨c, 0, none⟩ = some (.pointer (some ⟨g, 0, none⟩)) := fun d os => cell_regrown (cell_of_row _ _ 0 _ _ _ ((hJ9.block c (lt_of_heap HI.out.cc) (fun e => HVC.out c e rfl)).trans HI.out.cc)) d os
    go_big_quiet_op
    exact rfl
  refine Qw.Walk.step (A := ?A1) (o := ?o1) (fun s w w2 h hb => PhD.step HJ.out HJ.out s w w2 h hb) Ph.p0 w HS0.out ?e1 ?w1 8 ?d1 (by simp) ?h1 ?n1
  case e1 => simp only [List.getElem?_toArray, List.getElem?_cons_succ, List.getElem?_cons_zero]; exact rfl
  case w1 => exact rfl
  case d1 => exact rfl
  case h1 =>
    intro s9 w9 h9
    have hJ9 : Keeps (fun k => v.ownBlock = some k) w w9 := by cases s9 <;> exact h9.1
    have z1 : ∀ d os, (grow (redrawn w9 d) os).cell? ⟨c, 0, none⟩ = some (.pointer (some ⟨g, 0, none⟩)) := fun d os => cell_regrown (cell_of_row _ _ 0 _ _ _ ((hJ9.block c (lt_of_heap HI.out.cc) (fun e => HVC.out c e rfl)).trans HI.out.cc)) d os
    go_big_quiet_op
    exact rfl
  refine Qw.Walk.step (A := ?A2) (o := ?o2) (fun s w w2 h hb => PhD.step HJ.out HJ.out s w w2 h hb) Ph.p0 w HS0.out ?e2 ?w2 9 ?d2 (by simp) ?h2 ?n2
  case e2 => simp only [List.getElem?_toArray, List.getElem?_cons_succ, List.getElem?_cons_zero]; exact rfl
  case w2 => exact rfl
  case d2 => exact rfl
  case h2 =>
    intro s9 w9 h9
    go_big_quiet_op
    exact rfl
  refine Qw.Walk.step (A := ?A3) (o := ?o3) (fun s w w2 h hb => PhD.step HJ.out HJ.out s w w2 h hb) Ph.p0 w HS0.out ?e3 ?w3 10 ?d3 (by simp) ?h3 ?n3
  case e3 => simp only [List.getElem?_toArray, List.getElem?_cons_succ, List.getElem?_cons_zero]; exact rfl
  case w3 => exact rfl
  case d3 => exact rfl
  case h3 =>
    intro s9 w9 h9
    go_big_quiet_op
    exact rfl
  refine Qw.Walk.step (A := ?A4) (o := ?o4) (fun s w w2 h hb => PhD.step HJ.out HJ.out s w w2 h hb) Ph.p0 w HS0.out ?e4 ?w4 11 ?d4 (by simp) ?h4 ?n4
  case e4 => simp only [List.getElem?_toArray, List.getElem?_cons_succ, List.getElem?_cons_zero]; exact rfl
  case w4 => exact rfl
  case d4 => exact rfl
  case h4 =>
    intro s9 w9 h9
    have hJ9 : Keeps (fun k => v.ownBlock = some k) w w9 := by cases s9 <;> exact h9.1
    have z1 : ∀ d os, (grow (redrawn w9 d) os).cell? ⟨g, 4, none⟩ = some v := fun d os => cell_regrown (cell_of_row _ _ 4 _ _ _ ((hJ9.block g (lt_of_heap HI.out.row) (fun e => HVG.out g e rfl)).trans HI.out.row)) d os
    go_big_quiet_op
    exact rfl
  refine Qw.Walk.step (A := ?A5) (o := ?o5) (fun s w w2 h hb => PhD.step HJ.out HJ.out s w w2 h hb) Ph.p0 w HS0.out ?e5 ?w5 12 ?d5 (by simp) ?h5 ?n5
  case e5 => simp only [List.getElem?_toArray, List.getElem?_cons_succ, List.getElem?_cons_zero]; exact rfl
  case w5 => exact rfl
  case d5 => exact rfl
  case h5 =>
    intro s9 w9 h9
    go_big_quiet_op
    exact rfl
  refine Qx.Chain.app (ob := ?ob1) (oa := ?oa1) intsR HJ.out (fun _ _ h _ hg => h.grown hg (fun k hk => .inl hk)) (fun _ h => Nat.le_trans hbw h.size) (fun _ h => h.size) rfl (by omega) (by omega) ?b1 ?b2 ?b3 ?b4 ?b6 (.tmp 11) (.tmp 13) ?b7 ?b8 ?b9 ?b5
  case b1 => simp only [List.getElem?_toArray, List.getElem?_cons_succ, List.getElem?_cons_zero]; exact rfl
  case b4 => simp only [List.getElem?_toArray, List.getElem?_cons_succ, List.getElem?_cons_zero]; exact rfl
  case b2 => exact rfl
  case b6 => exact rfl
  case b7 => exact rfl
  case b8 => exact fun gs => rfl
  case b9 => exact fun gs => rfl
  case b3 => exact fun w9 => buildI_one w9 _ _ _ (.tmp 12) rfl rfl
  intro gs v9 w9 h9
  obtain ⟨hk9, hr9, hf9⟩ := h9
  simp only [List.drop_succ_cons, List.drop_zero, Act.put, List.setIfInBounds_toArray, List.set_cons_succ, List.set_cons_zero]
  have hb9 : ∀ x ∈ l ++ [m], x < 1048576 := by
    intro x hx
    rcases List.mem_append.mp hx with h | h
    · exact HI.out.own.bound x h
    · simp only [List.mem_singleton] at h; omega
  have ho9 := recs_ownI hr9 hb9
  obtain ⟨a9, n9, c9, rfl⟩ := ho9.slice_
  have hrg := (hk9.block g (lt_of_heap HI.out.row) (fun e => HVG.out g e rfl)).trans HI.out.row
  have hrc := (hk9.block c (lt_of_heap HI.out.cc) (fun e => HVC.out c e rfl)).trans HI.out.cc
  have y4 : w9.cell? ⟨g, 4, none⟩ = some v := cell_of_row _ _ 4 _ _ _ hrg
  have f4 := frozen_of_row _ _ 4 _ _ hrg
  have HRG := Lib.hid hrg
  have HRC := Lib.hid hrc
  have HO9 := Lib.hid ho9
  have HK9 := Lib.hid hk9
  clear hk9 hr9 hf9 hb9 ho9 hrg hrc
  go_simp
  go_wp2_with fail
  refine bodyPost_end (results_none rfl _ _ _) rfl ?_
  have hk := (Keeps.refl (fun b => b = g) w9).setCell g 4 (.slice a9 n9 c9) (.inl rfl)
  have hb9 : Below base w0 w9 := HI.out.below.trans (HK9.out.below base hbw (fun k e => (HI.out.own.lt k e).1))
  have hs9 : base ≤ w9.heap.size := Nat.le_trans HI.out.base hb9.size
  have hga : ∀ k, (Value.slice a9 n9 c9).ownBlock = some k → ¬ k = g := fun k e => ty_ne (own_ty HO9.out k e) HRG.out (by decide)
  refine ⟨rfl, ⟨.slice a9 n9 c9, (hk.block c (lt_of_heap HRC.out) hcg).trans HRC.out, heap_setCell_same w9 g 4 _ _ (.slice a9 n9 c9) HRG.out, HO9.out.frame hk hga, hb9.trans (hk.below base hs9 (fun b e => by rw [e]; exact HI.out.low)), HI.out.low, HI.out.base⟩, ?_⟩
  refine K4.trans (K4.keeps HK9.out (fun k e => ⟨_, by decide, own_ty HI.out.own k e⟩)) (K4.keeps hk (fun k e => ⟨49, by decide, by rw [e]; exact ⟨_, _, HRG.out⟩⟩))
theorem left_any (w : World) (g : Nat) (lf : Nat) (q1 q2 q4 q5 q6 : Value) (h : w.heap[g]? = some (.cells #[.bool true, q1, q2, .int .i64 (lf : Int), q4, q5, q6] 49)) :
    Calls Try.prog 13 #[.pointer (some ⟨g, 0, none⟩)] w fun e w' => e = .returned (.int .i64 (lf : Int)) ∧ w = w' := by
  have c0 : w.cell? ⟨g, 0, none⟩ = some (.bool true) := cell_of_row _ _ 0 _ _ _ h
  have c3 : w.cell? ⟨g, 3, none⟩ = some (.int .i64 (lf : Int)) := cell_of_row _ _ 3 _ _ _ h
  clear h
  go_enter Try.func13, Try.ntmps13
  go_wp2_with fail
  go_ret
  exact ⟨rfl, rfl⟩
theorem left_nil (w : World) : Calls Try.prog 13 #[.pointer none] w fun e w' => e = .returned (.int .i64 0) ∧ w = w' := by
  go_enter Try.func13, Try.ntmps13
  go_wp2_with fail
  go_ret
  exact ⟨rfl, rfl⟩
theorem left_unmade (w : World) (g : Nat) (q1 q2 q3 q4 q5 q6 : Value) (h : w.heap[g]? = some (.cells #[.bool false, q1, q2, q3, q4, q5, q6] 49)) :
    Calls Try.prog 13 #[.pointer (some ⟨g, 0, none⟩)] w fun e w' => e = .returned (.int .i64 0) ∧ w = w' := by
  have c0 : w.cell? ⟨g, 0, none⟩ = some (.bool false) := cell_of_row _ _ 0 _ _ _ h
  clear h
  go_enter Try.func13, Try.ntmps13
  go_wp2_with fail
  go_ret
  exact ⟨rfl, rfl⟩
theorem new_no (x y : Int) (h : ¬ (1 ≤ x ∧ x ≤ 1024 ∧ 1 ≤ y ∧ y ≤ 1024)) (w : World) : Calls Try.prog 11 #[.int .i64 x, .int .i64 y] w fun e w' => e = .returned (.tuple #[.pointer none, .int .i64 2]) ∧ w = w' := by
  go_enter Try.func11, Try.ntmps11
  go_wp2_with fail
  refine (right_no x y h w).mono ?_
  rintro e w1 ⟨rfl, rfl⟩
  go_wp2_with fail
  go_ret2
  exact ⟨rfl, rfl⟩
/-- how many pixels each row of the passes has -/
def mW (l : List (Nat × Nat × Nat)) : List Nat := l.map fun x => x.2.2
def widthsL (wd ht : Nat) : List Nat := mW (rowsL wd ht)
/-- an encoder: lf pixels are left, at were put of the row of the next one, B bytes went to the stream -/
structure En (base : Nat) (w : World) (g wd ht lf : Nat) (v : Value) (rws : List Nat) (at_ gz : Nat) (s : Dg) (bg : Bool) (B : List Nat) : Prop where
  row : w.heap[g]? = some (.cells #[.bool true, .int .i64 (wd : Int), .int .i64 (ht : Int), .int .i64 (lf : Int), v, .int .i64 (at_ : Int), .pointer (some ⟨gz, 0, none⟩)] 49)
  rows : Nums .i64 1048576 w v rws
  zs : Zs base w gz s bg B
  low : base ≤ g
  ng : ¬ g = gz
  ns : ¬ s.own g
  rw : ∀ k, v.ownBlock = some k → base ≤ k ∧ ¬ k = g ∧ ¬ k = gz ∧ ¬ s.own k
set_option maxRecDepth 100000 in
set_option maxHeartbeats 2000000 in
theorem new_png (base : Nat) (a b : Nat) (ha1 : 1 ≤ a) (ha2 : a ≤ 1024) (hb1 : 1 ≤ b) (hb2 : b ≤ 1024) (w : World) (hbase : base ≤ w.heap.size) :
    Calls Try.prog 11 #[.int .i64 (a : Int), .int .i64 (b : Int)] w fun e w' => ∃ g v gz s, e = .returned (.tuple #[.pointer (some ⟨g, 0, none⟩), .int .i64 0]) ∧ En base w' g a b (a * b) v (widthsL a b) 0 gz s false [] ∧ Below w.heap.size w w' ∧ (∀ k, k = g ∨ v.ownBlock = some k ∨ k = gz ∨ s.own k → w.heap.size ≤ k) := by
  obtain ⟨n, hn⟩ : ∃ n, n = a * b := ⟨_, rfl⟩
  have hn9 : n ≤ 1024 * 1024 := by rw [hn]; exact Nat.mul_le_mul ha2 hb2
  have e1 : IntKind.i64.wrap ((a : Int) * (b : Int)) = (n : Int) := by rw [← Int.natCast_mul, ← hn, IntKind.wrap_i64]; omega
  rw [← hn]
  have HN := Lib.hid hn
  clear hn
  go_enter Try.func11, Try.ntmps11
  go_wp2_with fail
  refine (right_yes a b ha1 ha2 hb1 hb2 w).mono ?_
  rintro e w1 ⟨rfl, rfl⟩
  go_wp2_with fail
  refine (new_z base w hbase).mono ?_
  rintro e w3 ⟨gz, s, rfl, hz, hb3, hf3⟩
  have HZ := Lib.hid hz
  have HB3 := Lib.hid hb3
  have HF3 := Lib.hid hf3
  clear hz hb3 hf3
  go_upto_region 4 with (fail)
  have hni : NI w3.heap.size (w3.heap.size + 1) w3.heap.size w3 ((w3.alloc (.cells #[.bool true, .int .i64 (a : Int), .int .i64 (b : Int), .int .i64 (n : Int), .slice none 0 0, .int .i64 0, .pointer (some ⟨gz, 0, none⟩)] 49)).alloc (.cells #[.pointer (some ⟨w3.heap.size, 0, none⟩)] 29)) (.slice none 0 0) [] a b n (.pointer (some ⟨gz, 0, none⟩)) :=
    ⟨heap_alloc2_new _ _ _, heap_alloc2_old _ _ _, Own.nil _ _ _ _ _, ((Below.refl _ _).alloc (Nat.le_refl _) _).alloc (by simp) _, Nat.le_refl _, Nat.le_refl _⟩
  obtain ⟨W, hW⟩ : ∃ ww, ww = ((w3.alloc (.cells #[.bool true, .int .i64 (a : Int), .int .i64 (b : Int), .int .i64 (n : Int), .slice none 0 0, .int .i64 0, .pointer (some ⟨gz, 0, none⟩)] 49)).alloc (.cells #[.pointer (some ⟨w3.heap.size, 0, none⟩)] 29)) := ⟨_, rfl⟩
  rw [← hW] at hni ⊢
  obtain ⟨g, hg⟩ : ∃ g, g = w3.heap.size := ⟨_, rfl⟩
  obtain ⟨c, hc⟩ : ∃ c, c = w3.heap.size + 1 := ⟨_, rfl⟩
  rw [← hc] at hni ⊢
  have hni2 : NI w3.heap.size c g w3 W (.slice none 0 0) [] a b n (.pointer (some ⟨gz, 0, none⟩)) := by rw [hg]; exact hni
  rw [← hg]
  have HNI := Lib.hid hni2
  have HG := Lib.hid hg
  clear hW hg hc hni hni2
  go_wp2_with fail
  refine (rows_new a b c ha1 ha2 hb1 hb2 (fun l wx => ∃ v, NI w3.heap.size c g w3 wx v (mW l) a b n (.pointer (some ⟨gz, 0, none⟩))) (fun l w1 w2 ⟨v, h⟩ hb => ⟨v, h.ext hb⟩) (fun l x y m w1 hl ⟨v, h⟩ => ?_) W ⟨_, HNI.out⟩).mono ?_
  · obtain ⟨hm1, hm2, -, -⟩ := rows_mem a b x y m ha1 hb1 (hl.subset (by simp))
    have hll := Nat.le_trans (hl.length_le) (rowsL_len a b hb1)
    rw [List.length_append] at hll
    refine (grow_step w3.heap.size c g w3 w1 v (mW l) a b n _ h (x : Int) (y : Int) m (by omega) (by unfold mW; rw [List.length_map]; omega)).mono ?_
    rintro e w4 ⟨rfl, ⟨v4, h4⟩, hk⟩
    refine ⟨rfl, ⟨v4, ?_⟩, hk⟩
    have e : mW (l ++ [(x, y, m)]) = mW l ++ [m] := by unfold mW; rw [List.map_append]; rfl
    rw [e]
    exact h4
  · rintro e w4 ⟨rfl, v4, h4⟩
    have y0 : w4.cell? ⟨c, 0, none⟩ = some (.pointer (some ⟨g, 0, none⟩)) := cell_of_row _ _ 0 _ _ _ h4.cc
    have H4 := Lib.hid h4
    clear h4
    go_wp2_with fail
    go_ret2
    have hlow := HZ.out.ws.low
    have hgz := lt_of_heap HZ.out.row
    have hb0 := HB3.out.size
    have hgg := HG.out
    have hzk : Zs base w4 gz s false [] := HZ.out.frame (Keeps.of_below H4.out.below (fun k => w3.heap.size ≤ k) (fun k h _ => h)) (fun k hk h => by
      rcases hk with rfl | hk
      · omega
      · have := (hlow k hk).2; omega)
    have hvb := fun k (e : v4.ownBlock = some k) => (H4.out.own.lt k e).1
    refine ⟨g, v4, gz, s, rfl, ⟨H4.out.row, H4.out.own.nums, hzk, by omega, by omega, fun h => by have := (hlow g h).2; omega, fun k e => ⟨by have := hvb k e; omega, ty_ne (own_ty H4.out.own k e) H4.out.row (by decide), by have := hvb k e; omega, fun h => by have := (hlow k h).2; have := hvb k e; omega⟩⟩, HB3.out.trans (H4.out.below.mono hb0), ?_⟩
    rintro k (rfl | h | h)
    · omega
    · have := hvb k h; omega
    · exact HF3.out k h
end Go.Proofs.Ytighlefajekloaa.PngG

/- Package png: Put. -/
set_option linter.unusedVariables false
set_option linter.unusedSimpArgs false
namespace Go.Proofs.Ytighlefajekloaa.PngH
open Go.RowKit Go.Sort Base Low NumSl DefS DefO NumAp SumsM Rec Qb Qt Qw Qx PngM PngN PngA PngB PngC PngD PngE PngF PngG Qp Qy RunAp
set_option maxRecDepth 100000 in
theorem put_nil (w : World) (p0 p1 p2 p3 : Nat) : Calls Try.prog 12 #[.pointer none, .agg #[.int .u8 (p0 : Int), .int .u8 (p1 : Int), .int .u8 (p2 : Int), .int .u8 (p3 : Int)]] w fun e w' => e = .returned (.tuple #[.slice none 0 0, .int .i64 1]) ∧ Below w.heap.size w w' := by
  go_enter Try.func12, Try.ntmps12
  go_wp2_with fail
  go_ret2
  exact ⟨rfl, ext_alloc _ _⟩
set_option maxRecDepth 100000 in
theorem put_unmade (w : World) (g : Nat) (q1 q2 q3 q4 q5 q6 : Value) (h : w.heap[g]? = some (.cells #[.bool false, q1, q2, q3, q4, q5, q6] 49)) (p0 p1 p2 p3 : Nat) : Calls Try.prog 12 #[.pointer (some ⟨g, 0, none⟩), .agg #[.int .u8 (p0 : Int), .int .u8 (p1 : Int), .int .u8 (p2 : Int), .int .u8 (p3 : Int)]] w fun e w' => e = .returned (.tuple #[.slice none 0 0, .int .i64 1]) ∧ Below w.heap.size w w' := by
  have hx := ext_alloc w (.cells #[.int .u8 (p0 : Int), .int .u8 (p1 : Int), .int .u8 (p2 : Int), .int .u8 (p3 : Int)] 28)
  have c0 : (w.alloc (.cells #[.int .u8 (p0 : Int), .int .u8 (p1 : Int), .int .u8 (p2 : Int), .int .u8 (p3 : Int)] 28)).cell? ⟨g, 0, none⟩ = some (.bool false) := cell_of_row _ _ 0 _ _ _ ((hx.block g (lt_of_heap h)).trans h)
  clear h hx
  go_enter Try.func12, Try.ntmps12
  go_wp2_with fail
  go_ret2
  exact ⟨rfl, ext_alloc _ _⟩
set_option maxRecDepth 100000 in
theorem put_over (w : World) (g : Nat) (q1 q2 q4 q5 q6 : Value) (h : w.heap[g]? = some (.cells #[.bool true, q1, q2, .int .i64 0, q4, q5, q6] 49)) (p0 p1 p2 p3 : Nat) : Calls Try.prog 12 #[.pointer (some ⟨g, 0, none⟩), .agg #[.int .u8 (p0 : Int), .int .u8 (p1 : Int), .int .u8 (p2 : Int), .int .u8 (p3 : Int)]] w fun e w' => e = .returned (.tuple #[.slice none 0 0, .int .i64 23]) ∧ Below w.heap.size w w' := by
  have hx := ext_alloc w (.cells #[.int .u8 (p0 : Int), .int .u8 (p1 : Int), .int .u8 (p2 : Int), .int .u8 (p3 : Int)] 28)
  have c0 : (w.alloc (.cells #[.int .u8 (p0 : Int), .int .u8 (p1 : Int), .int .u8 (p2 : Int), .int .u8 (p3 : Int)] 28)).cell? ⟨g, 0, none⟩ = some (.bool true) := cell_of_row _ _ 0 _ _ _ ((hx.block g (lt_of_heap h)).trans h)
  have c3 : (w.alloc (.cells #[.int .u8 (p0 : Int), .int .u8 (p1 : Int), .int .u8 (p2 : Int), .int .u8 (p3 : Int)] 28)).cell? ⟨g, 3, none⟩ = some (.int .i64 0) := cell_of_row _ _ 3 _ _ _ ((hx.block g (lt_of_heap h)).trans h)
  clear h hx
  go_enter Try.func12, Try.ntmps12
  go_wp2_with fail
  go_ret2
  exact ⟨rfl, ext_alloc _ _⟩
def inL (at_ : Nat) (px : List Nat) : List Nat := (if at_ = 0 then [0] else []) ++ px
def toldL (lf at_ : Nat) (bg : Bool) (B px : List Nat) : List Nat := (headZ bg ++ outN (bitsW (B ++ inL at_ px)) ((bitsW B).length / 8)) ++ (if lf = 1 then outN (endL (B ++ inL at_ px)) ((bitsW (B ++ inL at_ px)).length / 8) ++ fourL (adler 1 (B ++ inL at_ px)) else [])
def putL (wd ht lf at_ : Nat) (bg : Bool) (B px : List Nat) : List Nat := ((if lf = wd * ht then headL wd ht else []) ++ (if toldL lf at_ bg B px = [] then [] else chunkL [73, 68, 65, 84] (toldL lf at_ bg B px))) ++ (if lf = 1 then chunkL [73, 69, 78, 68] [] else [])
/-- what Put leaves -/
def PutTo (base : Nat) (w : World) (g wd ht lf : Nat) (v : Value) (r0 : Nat) (rs : List Nat) (at_ gz : Nat) (s : Dg) (bg : Bool) (B px : List Nat) (e : Ending) (w' : World) : Prop :=
  ∃ y, e = .returned (.tuple #[y, .int .i64 0]) ∧ Own .u8 256 5 w.heap.size w' y (putL wd ht lf at_ bg B px) ∧ Keeps (fun k => k = g ∨ k = gz ∨ s.own k) w w' ∧
    (¬ lf = 1 → ∃ v' s', En base w' g wd ht (lf - 1) v' (if at_ + 1 = r0 then rs else r0 :: rs) (if at_ + 1 = r0 then 0 else at_ + 1) gz s' true (B ++ inL at_ px) ∧ (∀ k, s'.own k → s.own k ∨ w.heap.size ≤ k) ∧ ∀ k, v'.ownBlock = some k → v.ownBlock = some k) ∧
    (lf = 1 → ∃ q1 q2 q4 q5 q6, w'.heap[g]? = some (.cells #[.bool true, q1, q2, .int .i64 0, q4, q5, q6] 49))
theorem one_i : Value.int .i64 1 = Value.int .i64 ((1 : Nat) : Int) := rfl
inductive Pt where
  | a
  | b (x : Value)
  | c (y : Value) (s' : Dg)
/-- how far the region that writes has come -/
def PD (N3 : Nat) (W : World) (v7 : Value) (L7 px told : List Nat) (base gz : Nat) (s : Dg) (B' : List Nat) (t : Pt) (w' : World) : Prop :=
  match t with
  | .a => Keeps (fun k => v7.ownBlock = some k) W w' ∧ Own .u8 256 5 N3 w' v7 L7
  | .b x => Keeps (fun k => v7.ownBlock = some k) W w' ∧ Own .u8 256 5 N3 w' x (L7 ++ px)
  | .c y s' => Keeps (fun k => v7.ownBlock = some k ∨ k = gz ∨ s.own k) W w' ∧ Own .u8 256 5 W.heap.size w' y told ∧ Zs base w' gz s' true B' ∧ s'.gW = s.gW ∧ (∀ k, s'.own k → s.own k ∨ W.heap.size ≤ k) ∧ ∀ k, y.ownBlock = some k → ¬ s'.own k
theorem PD.k {N3 : Nat} {W : World} {v7 : Value} {L7 px told : List Nat} {base gz : Nat} {s : Dg} {B' : List Nat} {t : Pt} {w' : World} (h : PD N3 W v7 L7 px told base gz s B' t w') : Keeps (fun k => v7.ownBlock = some k ∨ k = gz ∨ s.own k) W w' := by
  cases t with
  | a => exact h.1.mono (fun k h => .inl h)
  | b x => exact h.1.mono (fun k h => .inl h)
  | c y s' => exact h.1
theorem PD.step {N3 : Nat} {W : World} {v7 : Value} {L7 px told : List Nat} {base gz : Nat} {s : Dg} {B' : List Nat} {t : Pt} {w' w2 : World} (h : PD N3 W v7 L7 px told base gz s B' t w') (hb : Below w'.heap.size w' w2) : PD N3 W v7 L7 px told base gz s B' t w2 := by
  have hk := Keeps.of_ext hb (fun _ => False)
  cases t with
  | a => exact ⟨h.1.trans hk (fun _ h => h.elim), h.2.below hb (Nat.le_refl _)⟩
  | b x => exact ⟨h.1.trans hk (fun _ h => h.elim), h.2.below hb (Nat.le_refl _)⟩
  | c y s' => exact ⟨h.1.trans hk (fun _ h => h.elim), h.2.1.below hb (Nat.le_refl _), h.2.2.1.frame hk (fun _ _ h => h), h.2.2.2⟩
set_option maxRecDepth 100000 in
set_option maxHeartbeats 2000000 in
theorem put_any (base : Nat) (w : World) (g wd ht lf : Nat) (v : Value) (r0 : Nat) (rs : List Nat) (at_ gz : Nat) (s : Dg) (bg : Bool) (B : List Nat) (h : En base w g wd ht lf v (r0 :: rs) at_ gz s bg B) (hw : wd ≤ 1024) (hh : ht ≤ 1024) (hlf : 1 ≤ lf) (hlf2 : lf ≤ wd * ht) (hat : at_ < r0) (hbase : base ≤ w.heap.size) (hB : B.length ≤ 30000)
    (p0 p1 p2 p3 : Nat) (hp : ∀ x ∈ [p0, p1, p2, p3], x < 256) :
    Calls Try.prog 12 #[.pointer (some ⟨g, 0, none⟩), .agg #[.int .u8 (p0 : Int), .int .u8 (p1 : Int), .int .u8 (p2 : Int), .int .u8 (p3 : Int)]] w (PutTo base w g wd ht lf v r0 rs at_ gz s bg B [p0, p1, p2, p3]) := by
  have HE := Lib.hid h
  have hx := ext_alloc w (.cells #[.int .u8 (p0 : Int), .int .u8 (p1 : Int), .int .u8 (p2 : Int), .int .u8 (p3 : Int)] 28)
  have hr3 := heap_alloc_new w (.cells #[.int .u8 (p0 : Int), .int .u8 (p1 : Int), .int .u8 (p2 : Int), .int .u8 (p3 : Int)] 28)
  obtain ⟨n, hn⟩ : ∃ n, n = wd * ht := ⟨_, rfl⟩
  have hn9 : n ≤ 1024 * 1024 := by rw [hn]; exact Nat.mul_le_mul hw hh
  have e1 : IntKind.i64.wrap ((wd : Int) * (ht : Int)) = (n : Int) := by rw [← Int.natCast_mul, ← hn, IntKind.wrap_i64]; omega
  rw [← hn] at hlf2
  have HN := Lib.hid hn
  have hrow := (hx.block g (lt_of_heap h.row)).trans h.row
  have c0 := cell_of_row _ _ 0 _ _ _ hrow
  have c3 := cell_of_row _ _ 3 _ _ _ hrow
  simp only [List.getElem?_toArray, List.getElem?_cons_succ, List.getElem?_cons_zero] at c0 c3
  have HROW := Lib.hid hrow
  have HX := Lib.hid hx
  have HR3 := Lib.hid hr3
  have d0 : ((lf : Int) == 0) = false := by simp; omega
  have d00 : ¬ (lf : Int) = 0 := by omega
  clear h hx hr3 hn hrow
  go_enter Try.func12, Try.ntmps12
  go_upto_region 6 with (fail)
  obtain ⟨cb, hcb⟩ : ∃ c, c = w.heap.size := ⟨_, rfl⟩
  rw [← hcb]
  obtain ⟨W1, hW1⟩ : ∃ ww, ww = w.alloc (.cells #[.int .u8 (p0 : Int), .int .u8 (p1 : Int), .int .u8 (p2 : Int), .int .u8 (p3 : Int)] 28) := ⟨_, rfl⟩
  rw [← hW1] at HROW HX HR3 ⊢
  rw [← hcb] at HR3
  have HCB := Lib.hid hcb
  clear hW1 hcb c0 c3
  have z1 : ∀ d os, (grow (redrawn W1 d) os).cell? ⟨g, 1, none⟩ = some (.int .i64 (wd : Int)) := fun d os => cell_regrown (cell_of_row _ _ 1 _ _ _ HROW.out) d os
  have z2 : ∀ d os, (grow (redrawn W1 d) os).cell? ⟨g, 2, none⟩ = some (.int .i64 (ht : Int)) := fun d os => cell_regrown (cell_of_row _ _ 2 _ _ _ HROW.out) d os
  have z3 : ∀ d os, (grow (redrawn W1 d) os).cell? ⟨g, 3, none⟩ = some (.int .i64 (lf : Int)) := fun d os => cell_regrown (cell_of_row _ _ 3 _ _ _ HROW.out) d os
  obtain ⟨L6, hL6⟩ : ∃ L, L = if lf = n then headL wd ht else [] := ⟨_, rfl⟩
  have HL6 := Lib.hid hL6
  clear hL6
  obtain ⟨bq, df⟩ : ∃ b, ((lf : Int) == (n : Int)) = b := ⟨_, rfl⟩
  have hl6 : bq = true ∧ L6 = headL wd ht ∨ bq = false ∧ L6 = [] := by
    by_cases hfi : lf = n
    · left; rw [HL6.out, if_pos hfi]; exact ⟨by rw [← df]; simp; omega, rfl⟩
    · right; rw [HL6.out, if_neg hfi]; exact ⟨by rw [← df]; simp; omega, rfl⟩
  have HQ6 := Lib.hid hl6
  clear hl6
  refine wp_region_quiet_below (by kernel_rfl) (by kernel_rfl) ?_
  repeat (go_big_quiet_step (fail))
  refine wpQuiet_nil ?_
  first | (rintro _ ⟨⟨dq, osq⟩, rfl⟩) | (rintro ⟨dq, osq⟩)
  have hb := below_regrown W1 dq osq
  generalize grow (redrawn W1 dq) osq = W2 at *
  have HR2 := Lib.hid ((hb.block g (lt_of_heap HROW.out)).trans HROW.out)
  have HP2 := Lib.hid ((hb.block cb (lt_of_heap HR3.out)).trans HR3.out)
  have HX2 := Lib.hid (HX.out.trans (hb.mono HX.out.size))
  clear hb z1 z2 z3 df
  go_simp
  go_upto_if 39 with (fail)
  go_cut [6] (fun v6 wc => Own .u8 256 5 W2.heap.size wc v6 L6 ∧ Below W2.heap.size W2 wc)
  case first =>
    rcases HQ6.out with ⟨hbq, hl⟩ | ⟨hbq, hl⟩
    · rw [hbq]
      have HL := Lib.hid hl
      clear hl hbq
      go_wp2_with fail
      refine (head_any W2 g wd ht _ _ _ _ _ HR2.out hw hh).mono ?_
      rintro e W3 ⟨y, rfl, hy, hby⟩
      have HY := Lib.hid hy
      have HBY := Lib.hid hby
      clear hy hby
      go_wp2_with fail
      go_meet
      case rel => exact ⟨by rw [HL.out]; exact HY.out, HBY.out⟩
    · rw [hbq]
      have HL := Lib.hid hl
      clear hl hbq
      go_wp2_with fail
      go_meet
      case rel => exact ⟨by rw [HL.out]; exact Own.nil _ _ _ _ _, Below.refl _ _⟩
  case rest =>
    obtain ⟨ho6, hb6⟩ := hcut
    have HO6 := Lib.hid ho6
    have HB6 := Lib.hid hb6
    have HR6 := Lib.hid ((hb6.block g (lt_of_heap HR2.out)).trans HR2.out)
    have HP6 := Lib.hid ((hb6.block cb (lt_of_heap HP2.out)).trans HP2.out)
    clear ho6 hb6
    have hcb3 : cb < wc.heap.size := lt_of_heap HP6.out
    generalize wc = W3 at *
    obtain ⟨i5, hi5, hz5, h15, h25⟩ := u8s.info
    have HQ1 := Lib.hid (show i5.bytes * 5 ≤ 281474976710656 by rw [h25]; omega)
    have HQ2 := Lib.hid (show 5 ≤ maxLen by unfold maxLen; omega)
    have hbs6 := HB6.out.size
    go_upto_region 9 with (refine wpList_make_own W3 rfl (.const (.int .i64 0)) (.const (.int .i64 5)) 33 rfl W3.heap.size 5 i5 (.int .u8 0) 1 Try.underlying33 hi5 hz5 h15 .i64 .i64 5 5 rfl rfl rfl HQ1.out HQ2.out (Nat.le_refl _) ?_; intro w3 ho3 hg3; have HO3 := Lib.hid ho3; have HG3 := Lib.hid hg3; clear ho3 hg3)
    obtain ⟨v7, hv7⟩ : ∃ x, x = Value.slice (some { block := W3.heap.size, off := 0 }) 0 5 := ⟨_, rfl⟩
    have ho3 := HO3.out
    rw [← hv7] at ho3 ⊢
    have hk3 : Keeps (fun _ => False) W3 w3 := (Keeps.refl _ W3).grown HG3.out (fun k hk => by cases hk)
    have HO7 := Lib.hid (show Own .u8 256 5 W3.heap.size w3 v7 [] from ⟨ho3, by simp⟩)
    have hb3 : Below W3.heap.size W3 w3 := hk3.below _ (Nat.le_refl _) (fun _ h => h.elim)
    have HB3 := Lib.hid hb3
    have HO6b := Lib.hid (HO6.out.below hb3 (Nat.le_refl _))
    have HL6b := Lib.hid (fun k (e : u6.ownBlock = some k) => (HO6.out.lt k e))
    have HR7 := Lib.hid ((hb3.block g (lt_of_heap HR6.out)).trans HR6.out)
    have HP7 := Lib.hid ((hb3.block cb (lt_of_heap HP6.out)).trans HP6.out)
    have HX7 := Lib.hid ((HX2.out.trans (HB6.out.mono HX2.out.size)).trans (hb3.mono (Nat.le_trans HX2.out.size HB6.out.size)))
    clear hv7 ho3 hk3 hb3 HO3 HG3 HO6 HR6 HP6 HQ1 HQ2 hi5 hz5 h15 h25 HR2 HP2
    obtain ⟨ba, da⟩ : ∃ b, ((at_ : Int) == 0) = b := ⟨_, rfl⟩
    obtain ⟨L7, hL7⟩ : ∃ L : List Nat, L = if at_ = 0 then [0] else [] := ⟨_, rfl⟩
    have hl7 : ba = true ∧ L7 = [0] ∨ ba = false ∧ L7 = [] := by
      by_cases hfi : at_ = 0
      · left; rw [hL7, if_pos hfi]; exact ⟨by rw [← da]; simp; omega, rfl⟩
      · right; rw [hL7, if_neg hfi]; exact ⟨by rw [← da]; simp; omega, rfl⟩
    have HQ7 := Lib.hid hl7
    have HL7 := Lib.hid hL7
    have c5 : w3.cell? ⟨g, 5, none⟩ = some (.int .i64 (at_ : Int)) := cell_of_row _ _ 5 _ _ _ HR7.out
    clear hl7 hL7
    go_upto_if 47 with (fail)
    go_cut [7] (fun v7 wc => Own .u8 256 5 W3.heap.size wc v7 L7 ∧ Below W3.heap.size w3 wc)
    case first =>
      rcases HQ7.out with ⟨hbq, hl⟩ | ⟨hbq, hl⟩
      · rw [hbq]
        have HL := Lib.hid hl
        clear hl hbq
        have HN1 := Lib.hid (nums_one .u8 256 5 w3 0 (by omega))
        have hxa := ext_alloc w3 (.cells #[.int .u8 ((0 : Nat) : Int)] 5)
        have HOA := Lib.hid (HO7.out.below hxa (Nat.le_refl _))
        have HXA := Lib.hid (hxa.mono HB3.out.size)
        have hbsa := Nat.le_trans HB3.out.size hxa.size
        clear hxa
        go_wp2_with (at_builtin; refine wpList_append_nums_at rfl (.tmp 48) (.tmp 49) 33 5 rfl .u8 256 1 W3.heap.size u8s v7 [] rfl HOA.out _ [0] rfl HN1.out (by decide) (by decide) hbsa ?_; intro v8 w8 ho8 hg8 hf8; have HO8 := Lib.hid ho8; have HG8 := Lib.hid hg8; clear ho8 hg8 hf8)
        go_meet
        case rel => exact ⟨by rw [HL.out]; exact HO8.out, below_grown HXA.out HOA.out HG8.out (Nat.le_refl _) hbsa⟩
      · rw [hbq]
        have HL := Lib.hid hl
        clear hl hbq
        go_wp2_with fail
        go_meet
        case rel => exact ⟨by rw [HL.out]; exact HO7.out, Below.refl _ _⟩
    case rest =>
      obtain ⟨ho7, hb7⟩ := hcut
      generalize wc = W4 at *
      have HO8 := Lib.hid ho7
      have hxw : Below w.heap.size w W4 := HX7.out.trans (hb7.mono (Nat.le_trans HX2.out.size hbs6))
      have HXW := Lib.hid hxw
      have hgl : g < w.heap.size := lt_of_heap HE.out.row
      have hzl : gz < w.heap.size := lt_of_heap HE.out.zs.row
      have hsl := HE.out.zs.ws.low
      have hw3 : w.heap.size ≤ W3.heap.size := Nat.le_trans HX2.out.size hbs6
      have HR8 := Lib.hid ((hb7.block g (by omega)).trans HR7.out)
      have HP8 := Lib.hid ((hb7.block cb hcb3).trans HP7.out)
      have HZ8 := Lib.hid (HE.out.zs.frame (Keeps.of_ext hxw (fun _ => False)) (fun _ _ h => h))
      have HO6c := Lib.hid (HO6b.out.frame (Keeps.of_below hb7 (fun k => W3.heap.size ≤ k) (fun k h _ => h)) (fun k e h => by have := (HL6b.out k e).2; omega))
      have HN3 := Lib.hid (Nat.le_trans HB3.out.size hb7.size)
      have HLT7 := Lib.hid ho7.lt
      have HG8 := Lib.hid (show ¬ (u7.ownBlock = some g ∨ g = gz ∨ s.own g) from by
        rintro (h | h | h)
        · have := (HLT7.out g h).1; omega
        · exact HE.out.ng h
        · exact HE.out.ns h)
      clear ho7 hb7 hxw HO6b HR7 HP7 HX7 HB3 HO7 HQ7
      obtain ⟨B2, hB2⟩ : ∃ B2, B2 = B ++ (L7 ++ [p0, p1, p2, p3]) := ⟨_, rfl⟩
      obtain ⟨TO, hTO⟩ : ∃ T, T = headZ bg ++ outN (bitsW B2) ((bitsW B).length / 8) := ⟨_, rfl⟩
      have hl7 : L7.length ≤ 1 := by rw [HL7.out]; split <;> simp
      have hB2l : B2.length ≤ 30005 := by rw [hB2]; simp; omega
      have HB2 := Lib.hid hB2
      have HTO := Lib.hid hTO
      have HPX := Lib.hid hp
      have HL1 := Lib.hid (show (L7.length + [p0, p1, p2, p3].length) * 1 ≤ 140737488355328 by simp; omega)
      have HL2 := Lib.hid (show L7.length + [p0, p1, p2, p3].length ≤ 140737488355328 by simp; omega)
      have HD := Lib.hid (show PD W3.heap.size W4 u7 L7 [p0, p1, p2, p3] TO base gz s B2 .a W4 from ⟨Keeps.refl _ _, HO8.out⟩)
      have HPL := Lib.hid (fun w9 (h9 : Keeps (fun k => u7.ownBlock = some k) W4 w9) => show Nums .u8 256 w9 (.slice (some ⟨cb, 0, none⟩) 4 4) [p0, p1, p2, p3] from
        nums_blk .u8 256 ((h9.block cb (lt_of_heap HP8.out) (fun e => by have := (HLT7.out cb e).1; omega)).trans HP8.out) [p0, p1, p2, p3] (by simp [maxLen]) HPX.out rfl 4 rfl)
      clear hB2 hTO
      go_upto_region 11 with (fail)
      refine wp_region_script [(true, 0), (true, 1), (true, 2), (true, 3), (true, 4), (true, 5), (false, 6), (false, 7), (true, 8), (true, 9), (true, 10), (true, 11), (true, 12)] (PD W3.heap.size W4 u7 L7 [p0, p1, p2, p3] TO base gz s B2) .a (by kernel_rfl) (by kernel_rfl) (HD.out.step ⟨rfl, rfl, rfl, Nat.le_refl _, fun _ _ => rfl⟩) ?_
      refine Scr.quiet (A := ?A0) (o := ?o0) (fun _ _ _ h9 hb9 => h9.step hb9) _ W4 HD.out ?e0 ?w0 52 ?d0 (by simp) ?h0 ?n0
      case e0 => simp only [List.getElem?_toArray, List.getElem?_cons_succ, List.getElem?_cons_zero]; exact rfl
      case w0 => exact rfl
      case d0 => exact rfl
      case h0 =>
        intro s9 w9 h9
        go_big_quiet_op
        exact rfl
      refine Scr.quiet (A := ?A1) (o := ?o1) (fun _ _ _ h9 hb9 => h9.step hb9) _ W4 HD.out ?e1 ?w1 53 ?d1 (by simp) ?h1 ?n1
      case e1 => simp only [List.getElem?_toArray, List.getElem?_cons_succ, List.getElem?_cons_zero]; exact rfl
      case w1 => exact rfl
      case d1 => exact rfl
      case h1 =>
        intro s9 w9 h9
        go_big_quiet_op
        exact rfl
      refine Scr.quiet (A := ?A2) (o := ?o2) (fun _ _ _ h9 hb9 => h9.step hb9) _ W4 HD.out ?e2 ?w2 54 ?d2 (by simp) ?h2 ?n2
      case e2 => simp only [List.getElem?_toArray, List.getElem?_cons_succ, List.getElem?_cons_zero]; exact rfl
      case w2 => exact rfl
      case d2 => exact rfl
      case h2 =>
        intro s9 w9 h9
        go_big_quiet_op
        exact rfl
      refine Scr.quiet (A := ?A3) (o := ?o3) (fun _ _ _ h9 hb9 => h9.step hb9) _ W4 HD.out ?e3 ?w3 55 ?d3 (by simp) ?h3 ?n3
      case e3 => simp only [List.getElem?_toArray, List.getElem?_cons_succ, List.getElem?_cons_zero]; exact rfl
      case w3 => exact rfl
      case d3 => exact rfl
      case h3 =>
        intro s9 w9 h9
        have z6 : ∀ d os, (grow (redrawn w9 d) os).cell? ⟨g, 6, none⟩ = some (.pointer (some ⟨gz, 0, none⟩)) := fun d os => cell_regrown (cell_of_row _ _ 6 _ _ _ ((h9.k.block g (lt_of_heap HR8.out) (fun e => HG8.out e)).trans HR8.out)) d os
        go_big_quiet_op
        exact rfl
      refine Scr.quiet (A := ?A4) (o := ?o4) (fun _ _ _ h9 hb9 => h9.step hb9) _ W4 HD.out ?e4 ?w4 56 ?d4 (by simp) ?h4 ?n4
      case e4 => simp only [List.getElem?_toArray, List.getElem?_cons_succ, List.getElem?_cons_zero]; exact rfl
      case w4 => exact rfl
      case d4 => exact rfl
      case h4 =>
        intro s9 w9 h9
        go_big_quiet_op
        exact rfl
      refine Scr.quiet (A := ?A5) (o := ?o5) (fun _ _ _ h9 hb9 => h9.step hb9) _ W4 HD.out ?e5 ?w5 57 ?d5 (by simp) ?h5 ?n5
      case e5 => simp only [List.getElem?_toArray, List.getElem?_cons_succ, List.getElem?_cons_zero]; exact rfl
      case w5 => exact rfl
      case d5 => exact rfl
      case h5 =>
        intro s9 w9 h9
        go_big_quiet_op
        exact rfl
      refine Scr.write (o := ?o6) (fun x t => t = .b x) ?e6 ?w6 ?r6 ?n6
      case e6 => simp only [List.getElem?_toArray, List.getElem?_cons_succ, List.getElem?_cons_zero]; exact rfl
      case w6 => exact rfl
      case r6 =>
        intro w9 h9
        left
        have key : ∀ (A : Act) (oa : Oper), oa.op = .call { callee := .builtin .append, args := #[.tmp 56, .tmp 57], argTypes := #[33, 33] } → A.eval (.tmp 56) = u7 → A.eval (.tmp 57) = .slice (some ⟨cb, 0, none⟩) 4 4 → ∃ u w' s', (execOp A.eval oa).run Try.prog w9 = .ok (.value u) w' ∧ s' = Pt.b u ∧ PD W3.heap.size W4 u7 L7 [p0, p1, p2, p3] TO base gz s B2 s' w' := by
          intro A oa h1 h2 h3
          obtain ⟨x, w8, hrun, h4, h5, -⟩ := run_append_n u8s (.tmp 56) (.tmp 57) h1 u7 L7 h2 h9.2 _ [p0, p1, p2, p3] (by intro e; cases e) h3 (HPL.out w9 h9.1) HL1.out HL2.out (Nat.le_trans HN3.out h9.1.size)
          exact ⟨x, w8, _, hrun, rfl, h9.1.grown h5 (fun k hk => .inl hk), h4⟩
        exact key _ _ rfl rfl rfl
      rintro x t rfl
      simp only [Act.put, List.setIfInBounds_toArray, List.set_cons_succ, List.set_cons_zero]
      refine Scr.call (o := ?o7) 24 #[.pointer (some ⟨gz, 0, none⟩), x] (fun v t => ∃ y s', v = .tuple #[y, .int .i64 0] ∧ t = .c y s') ?e7 ?w7 ?r7 ?c7 ?n7
      case e7 => simp only [List.getElem?_toArray, List.getElem?_cons_succ, List.getElem?_cons_zero]; exact rfl
      case w7 => exact rfl
      case r7 => intro w9; simp [execOp, Act.eval, Act.put, resolve, go_sem]
      case c7 =>
        intro w9 h9
        refine (write_z base w9 gz s bg B (L7 ++ [p0, p1, p2, p3]) (HZ8.out.frame h9.1 (fun k hk e => by
          have h1 := (HLT7.out k e).1
          rcases hk with rfl | hk
          · omega
          · have := (hsl k hk).2; omega)) x h9.2.nums (fun k hk e => by have := (h9.2.lt k hk).1; omega) (by rw [← HB2.out]; omega)).mono ?_
        rintro e w8 ⟨y, s', rfl, ho, hz, hk, hg, hf, hd⟩
        rw [← HB2.out] at ho hz
        rw [← HTO.out] at ho
        refine ⟨_, .c y s', rfl, ⟨y, s', rfl, rfl⟩, (h9.1.mono (fun k h => .inl h)).trans hk (fun k h => .inl (.inr h)), ho.mono h9.1.size, hz, hg, fun k h => (hf k h).imp id (fun h => Nat.le_trans h9.1.size h), hd⟩
      rintro v9 t ⟨y, s1, rfl, rfl⟩
      simp only [Act.put, List.setIfInBounds_toArray, List.set_cons_succ, List.set_cons_zero]
      refine Scr.quiet (A := ?A8) (o := ?o8) (fun _ _ _ h9 hb9 => h9.step hb9) _ W4 HD.out ?e8 ?w8 51 ?d8 (by simp) ?h8 ?n8
      case e8 => simp only [List.getElem?_toArray, List.getElem?_cons_succ, List.getElem?_cons_zero]; exact rfl
      case w8 => exact rfl
      case d8 => exact rfl
      case h8 =>
        intro s9 w9 h9
        go_big_quiet_op
        exact rfl
      refine Scr.quiet (A := ?A9) (o := ?o9) (fun _ _ _ h9 hb9 => h9.step hb9) _ W4 HD.out ?e9 ?w9 60 ?d9 (by simp) ?h9 ?n9
      case e9 => simp only [List.getElem?_toArray, List.getElem?_cons_succ, List.getElem?_cons_zero]; exact rfl
      case w9 => exact rfl
      case d9 => exact rfl
      case h9 =>
        intro s9 w9 h9
        go_big_quiet_op
        exact rfl
      refine Scr.quiet (A := ?A10) (o := ?o10) (fun _ _ _ h9 hb9 => h9.step hb9) _ W4 HD.out ?e10 ?w10 61 ?d10 (by simp) ?h10 ?n10
      case e10 => simp only [List.getElem?_toArray, List.getElem?_cons_succ, List.getElem?_cons_zero]; exact rfl
      case w10 => exact rfl
      case d10 => exact rfl
      case h10 =>
        intro s9 w9 h9
        go_big_quiet_op
        exact rfl
      refine Scr.quiet (A := ?A11) (o := ?o11) (fun _ _ _ h9 hb9 => h9.step hb9) _ W4 HD.out ?e11 ?w11 8 ?d11 (by simp) ?h11 ?n11
      case e11 => simp only [List.getElem?_toArray, List.getElem?_cons_succ, List.getElem?_cons_zero]; exact rfl
      case w11 => exact rfl
      case d11 => exact rfl
      case h11 =>
        intro s9 w9 h9
        go_big_quiet_op
        exact rfl
      refine Scr.quiet (A := ?A12) (o := ?o12) (fun _ _ _ h9 hb9 => h9.step hb9) _ W4 HD.out ?e12 ?w12 9 ?d12 (by simp) ?h12 ?n12
      case e12 => simp only [List.getElem?_toArray, List.getElem?_cons_succ, List.getElem?_cons_zero]; exact rfl
      case w12 => exact rfl
      case d12 => exact rfl
      case h12 =>
        intro s9 w9 h9
        go_big_quiet_op
        exact rfl
      rintro w5 ⟨hk5, ho5, hz5, hg5, hf5, hd5⟩
      go_simp
      have hgs : ¬ s1.own g := fun h => by
        rcases hf5 g h with h1 | h1
        · exact HE.out.ns h1
        · have := HXW.out.size; omega
      have hr5 := (hk5.block g (lt_of_heap HR8.out) (fun e => HG8.out e)).trans HR8.out
      have hlo6 : ∀ k, u6.ownBlock = some k → ¬ (u7.ownBlock = some k ∨ k = gz ∨ s.own k) := fun k e h => by
        have h6 := HL6b.out k e
        have h2 := HX2.out.size
        rcases h with h | h | h
        · have := (HLT7.out k h).1; omega
        · omega
        · have := (hsl k h).2; omega
      have HO65 := Lib.hid (HO6c.out.frame hk5 hlo6)
      have hv5 : Nums .i64 1048576 w5 v (r0 :: rs) := (HE.out.rows.below HXW.out (Nat.le_refl _)).frame hk5 (fun k e h => by
        have h3 := HE.out.rw k e
        rcases h with h | h | h
        · have h4 := (HLT7.out k h).1
          obtain ⟨b5, o5, c5, e5, hlt5, -⟩ := HE.out.rows.cells (by intro e; cases e)
          rw [e5] at e
          simp only [Value.ownBlock, Option.some.injEq] at e
          omega
        · exact h3.2.2.1 h
        · exact h3.2.2.2 h)
      have HV5 := Lib.hid hv5
      have HR5 := Lib.hid hr5
      have HZ5 := Lib.hid hz5
      have HO5 := Lib.hid ho5
      have HK5 := Lib.hid hk5
      have HD5 := Lib.hid hd5
      have HF5 := Lib.hid hf5
      obtain ⟨l1, hl1⟩ : ∃ l1, l1 = lf - 1 := ⟨_, rfl⟩
      have e2 : IntKind.i64.wrap ((lf : Int) - 1) = (l1 : Int) := by rw [IntKind.wrap_i64]; omega
      have HLF := Lib.hid (show lf = l1 + 1 by omega)
      have y3 : w5.cell? ⟨g, 3, none⟩ = some (.int .i64 (lf : Int)) := cell_of_row _ _ 3 _ _ _ hr5
      have f3 := frozen_of_row _ _ 3 _ _ hr5
      clear hr5 hv5 hz5 ho5 hk5 hd5 hf5 hl1 HD HPL HO6c
      go_upto_region 13 with (fail)
      have hr6 : (w5.setCell ⟨g, 3, none⟩ (.int .i64 (l1 : Int))).heap[g]? = some (.cells #[.bool true, .int .i64 (wd : Int), .int .i64 (ht : Int), .int .i64 (l1 : Int), v, .int .i64 (at_ : Int), .pointer (some ⟨gz, 0, none⟩)] 49) := heap_setCell_same w5 g 3 _ _ (.int .i64 (l1 : Int)) HR5.out
      have hk6 := (Keeps.refl (fun k => k = g) w5).setCell g 3 (.int .i64 (l1 : Int)) (.inl rfl)
      generalize w5.setCell ⟨g, 3, none⟩ (.int .i64 (l1 : Int)) = w6 at *
      obtain ⟨a1, ha1⟩ : ∃ a1, a1 = at_ + 1 := ⟨_, rfl⟩
      have hr09 : r0 < 1048576 := HE.out.rows.bound r0 (List.mem_cons_self ..)
      have e3 : IntKind.i64.wrap ((at_ : Int) + 1) = (a1 : Int) := by rw [IntKind.wrap_i64]; omega
      have HA1 := Lib.hid ha1
      have y5 : w6.cell? ⟨g, 5, none⟩ = some (.int .i64 (at_ : Int)) := cell_of_row _ _ 5 _ _ _ hr6
      have f5 := frozen_of_row _ _ 5 _ _ hr6
      have HR6 := Lib.hid hr6
      have HK6 := Lib.hid hk6
      clear hr6 hk6 ha1 y3 f3
      go_upto_region 14 with (fail)
      have hr7 : (w6.setCell ⟨g, 5, none⟩ (.int .i64 (a1 : Int))).heap[g]? = some (.cells #[.bool true, .int .i64 (wd : Int), .int .i64 (ht : Int), .int .i64 (l1 : Int), v, .int .i64 (a1 : Int), .pointer (some ⟨gz, 0, none⟩)] 49) := heap_setCell_same w6 g 5 _ _ (.int .i64 (a1 : Int)) HR6.out
      have hk7 := HK6.out.setCell g 5 (.int .i64 (a1 : Int)) (.inl rfl)
      generalize w6.setCell ⟨g, 5, none⟩ (.int .i64 (a1 : Int)) = w7 at *
      have HR7 := Lib.hid hr7
      have HK7 := Lib.hid hk7
      have HV7 := Lib.hid (HV5.out.frame hk7 (fun k e h => (HE.out.rw k e).2.1 h))
      clear hr7 hk7 y5 f5
      obtain ⟨bv, ov, cv, ev, hbv, hcv⟩ := HV7.out.cells (by intro e; cases e)
      have hcv0 := hcv 0 (by simp)
      rw [Nat.add_zero] at hcv0
      obtain ⟨nv, hnv⟩ : ∃ nv, nv = (r0 :: rs).length := ⟨_, rfl⟩
      rw [← hnv] at ev
      have hnv0 : 0 < nv := by rw [hnv]; simp
      have HNV := Lib.hid hnv
      subst ev
      have z4 : ∀ d os, (grow (redrawn w7 d) os).cell? ⟨g, 4, none⟩ = some (.slice (some ⟨bv, ov, none⟩) nv cv) := fun d os => cell_regrown (cell_of_row _ _ 4 _ _ _ HR7.out) d os
      have z5 : ∀ d os, (grow (redrawn w7 d) os).cell? ⟨g, 5, none⟩ = some (.int .i64 (a1 : Int)) := fun d os => cell_regrown (cell_of_row _ _ 5 _ _ _ HR7.out) d os
      have zv : ∀ d os, (grow (redrawn w7 d) os).cell? ⟨bv, ov, none⟩ = some (.int .i64 (r0 : Int)) := fun d os => cell_regrown hcv0 d os
      obtain ⟨bx, dx⟩ : ∃ b, ((a1 : Int) == (r0 : Int)) = b := ⟨_, rfl⟩
      have HBX := Lib.hid (show bx = true ∧ a1 = r0 ∨ bx = false ∧ ¬ a1 = r0 by
        by_cases h : a1 = r0
        · left; exact ⟨by rw [← dx]; simp; omega, h⟩
        · right; exact ⟨by rw [← dx]; simp; omega, h⟩)
      clear hcv hcv0 hnv
      refine wp_region_quiet_below (by kernel_rfl) (by kernel_rfl) ?_
      repeat (go_big_quiet_step (fail))
      refine wpQuiet_nil ?_
      first | (rintro _ ⟨⟨dq2, osq2⟩, rfl⟩) | (rintro ⟨dq2, osq2⟩)
      have hb8 := below_regrown w7 dq2 osq2
      generalize grow (redrawn w7 dq2) osq2 = w8 at *
      have hk8 : Keeps (fun k => k = g) w5 w8 := HK7.out.trans (Keeps.of_ext hb8 (fun _ => False)) (fun _ h => h.elim)
      have HK8 := Lib.hid hk8
      have hr8 := (hb8.block g (lt_of_heap HR7.out)).trans HR7.out
      have HR9 := Lib.hid hr8
      have HV8 := Lib.hid (HV7.out.below hb8 (Nat.le_refl _))
      have y4 : w8.cell? ⟨g, 4, none⟩ = some (.slice (some ⟨bv, ov, none⟩) nv cv) := cell_of_row _ _ 4 _ _ _ hr8
      have f4 := frozen_of_row _ _ 4 _ _ hr8
      have y5 : w8.cell? ⟨g, 5, none⟩ = some (.int .i64 (a1 : Int)) := cell_of_row _ _ 5 _ _ _ hr8
      have f5 := frozen_of_row _ _ 5 _ _ hr8
      have hnv1 : 1 ≤ nv := hnv0
      clear hb8 hk8 hr8 z4 z5 zv dx
      go_simp
      go_upto_if 86 with (fail)
      go_cut [] (fun wc => ∃ (v' : Value) (rws' : List Nat) (at' : Nat), (a1 = r0 ∧ rws' = rs ∧ at' = 0 ∨ ¬ a1 = r0 ∧ rws' = r0 :: rs ∧ at' = a1) ∧ wc.heap[g]? = some (.cells #[.bool true, .int .i64 (wd : Int), .int .i64 (ht : Int), .int .i64 (l1 : Int), v', .int .i64 (at' : Int), .pointer (some ⟨gz, 0, none⟩)] 49) ∧ Nums .i64 1048576 wc v' rws' ∧ (∀ k, v'.ownBlock = some k → k = bv) ∧ Keeps (fun k => k = g) w5 wc)
      case first =>
        rcases HBX.out with ⟨hbq, hl⟩ | ⟨hbq, hl⟩
        · rw [hbq]
          have HL := Lib.hid hl
          clear hl hbq
          go_wp2_with (refine wpList_slice_l rfl 23 3 (.tmp 92) (.const (.int .i64 1)) rfl .i64 1048576 8 ints (some ⟨bv, ov, none⟩) nv cv (r0 :: rs) rfl HV8.out .i64 1 rfl hnv1 ?_; intro a9 c9 h9 ho9; have H9 := Lib.hid (h9 _ HV8.out); have HS9 := Lib.hid ho9; clear h9 ho9)
          have hk := ((Keeps.refl (fun k => k = g) w8).setCell g 4 (.slice a9 (nv - 1) c9) (.inl rfl)).setCell g 5 (.int .i64 0) (.inl rfl)
          have hrA := heap_setCell_same w8 g 4 _ _ (.slice a9 (nv - 1) c9) HR9.out
          have hrB := heap_setCell_same (w8.setCell ⟨g, 4, none⟩ (.slice a9 (nv - 1) c9)) g 5 _ _ (.int .i64 0) hrA
          have hvg : ∀ k, (Value.slice a9 (nv - 1) c9).ownBlock = some k → k = bv := fun k e => by
            have := HS9.out k e
            simp only [Value.ownBlock, Option.some.injEq] at this
            exact this.symm
          have hbg : ¬ bv = g := (HE.out.rw bv rfl).2.1
          go_meet
          case rel => exact ⟨_, _, 0, .inl ⟨HL.out, rfl, rfl⟩, hrB, H9.out.frame hk (fun k e h => hbg (by rw [← hvg k e]; exact h)), hvg, HK8.out.trans hk (fun k h => .inl h)⟩
        · rw [hbq]
          have HL := Lib.hid hl
          clear hl hbq
          go_wp2_with fail
          go_meet
          case rel => exact ⟨_, _, _, .inr ⟨HL.out, rfl, rfl⟩, HR9.out, HV8.out, fun k e => by simp only [Value.ownBlock, Option.some.injEq] at e; exact e.symm, HK8.out⟩
      case rest =>
        obtain ⟨v', rws', at', hcase, hr9, hv9, hvb9, hk9⟩ := hcut
        generalize wc = w9 at *
        obtain ⟨ay, ny, cy, rfl⟩ := HO5.out.slice_
        have hny := (nums_len HO5.out.nums).1
        have hgz : ¬ g = gz := HE.out.ng
        have HZ9 := Lib.hid (HZ5.out.frame hk9 (fun k hk e => by
          rcases hk with rfl | hk
          · exact hgz e.symm
          · exact hgs (by rw [← e]; exact hk)))
        have h45 : w.heap.size ≤ W4.heap.size := HXW.out.size
        have HO9 := Lib.hid (HO5.out.frame hk9 (fun k e h => by have := (HO5.out.lt k e).1; omega))
        have HO69 := Lib.hid (HO65.out.frame hk9 (fun k e h => by have := (HL6b.out k e).1; have := HX2.out.size; omega))
        have HR10 := Lib.hid hr9
        have HV10 := Lib.hid hv9
        have HC10 := Lib.hid hcase
        have y3 : w9.cell? ⟨g, 3, none⟩ = some (.int .i64 (l1 : Int)) := cell_of_row _ _ 3 _ _ _ hr9
        have HW9 := Lib.hid ((HXW.out.trans (show Below w.heap.size W4 W4 from Below.refl _ _)))
        have HNY := Lib.hid hny
        clear hr9 hv9 hcase hny y4 f4 y5 f5
        have hbv : bv < w.heap.size := by
          obtain ⟨b5, o5, c5', e5, hlt5, -⟩ := HE.out.rows.cells (by intro e; cases e)
          simp only [Value.slice.injEq, Option.some.injEq, Addr.mk.injEq] at e5
          have := e5.1.1
          omega
        have hrv := HE.out.rw bv rfl
        have hKK : Keeps (fun k => k = g ∨ k = gz ∨ s.own k) w w9 := (((Keeps.of_ext HXW.out (fun _ => False)).mono (fun _ h => h.elim)).trans HK5.out (fun k h => by
          rcases h with h | h
          · right; have := (HLT7.out k h).1; omega
          · exact .inl (.inr h))).trans hk9 (fun k h => .inl (.inl h))
        have HKK := Lib.hid hKK
        have hin : B2 = B ++ inL at_ [p0, p1, p2, p3] := by rw [HB2.out]; unfold inL; rw [← HL7.out]
        have HIN := Lib.hid hin
        have hen : En base w9 g wd ht l1 v' (if at_ + 1 = r0 then rs else r0 :: rs) (if at_ + 1 = r0 then 0 else at_ + 1) gz s1 true (B ++ inL at_ [p0, p1, p2, p3]) := by
          have hz := HZ9.out
          rw [hin] at hz
          have ha := HA1.out
          refine ⟨?_, ?_, hz, HE.out.low, hgz, hgs, fun k e => ?_⟩
          · rcases HC10.out with ⟨h1, -, h3⟩ | ⟨h1, -, h3⟩
            · rw [if_pos (by omega)]; have h4 := HR10.out; rw [h3] at h4; exact h4
            · rw [if_neg (by omega), ← ha, ← h3]; exact HR10.out
          · rcases HC10.out with ⟨h1, h2, -⟩ | ⟨h1, h2, -⟩
            · rw [if_pos (by omega), ← h2]; exact HV10.out
            · rw [if_neg (by omega), ← h2]; exact HV10.out
          · rw [hvb9 k e]
            refine ⟨hrv.1, hrv.2.1, hrv.2.2.1, fun h => ?_⟩
            rcases HF5.out bv h with h1 | h1
            · exact hrv.2.2.2 h1
            · omega
        have HEN := Lib.hid hen
        have HVB := Lib.hid (fun k (e : v'.ownBlock = some k) => show (Value.slice (some ⟨bv, ov, none⟩) nv cv).ownBlock = some k from by rw [hvb9 k e]; rfl)
        have HFR := Lib.hid (fun k (h : s1.own k) => show s.own k ∨ w.heap.size ≤ k from (HF5.out k h).imp id (fun h => Nat.le_trans h45 h))
        clear hen hKK hin
        by_cases h0 : l1 = 0
        · have d1 : ((l1 : Int) == 0) = true := by simp; omega
          have hlf1 : lf = 1 := by have := HLF.out; omega
          have HLF1 := Lib.hid hlf1
          have H0 := Lib.hid h0
          have hel : (endL B2).length ≤ 300000 := by
            have h1 := fin_len B2
            have h2 := al8_ge (finL B2).length
            have h3 := nb_le B2.length
            unfold endL alig
            rw [List.length_append, List.length_replicate]
            omega
          have HEZ := Lib.hid (end_z base w9 gz s1 true B2 HZ9.out (by omega) (by omega))
          have y6 : w9.cell? ⟨g, 6, none⟩ = some (.pointer (some ⟨gz, 0, none⟩)) := cell_of_row _ _ 6 _ _ _ HR10.out
          obtain ⟨MO, hMO⟩ : ∃ M, M = (headZ true ++ outN (endL B2) ((bitsW B2).length / 8)) ++ fourL (adler 1 B2) := ⟨_, rfl⟩
          have hMl : MO.length ≤ 300004 := by
            rw [hMO, List.length_append, List.length_append, fourL_len]
            have := end_len B2 ((bitsW B2).length / 8)
            have : (headZ true).length = 0 := rfl
            omega
          have hM0 : MO ≠ [] := fun h => by
            have := congrArg List.length h
            rw [hMO, List.length_append, fourL_len] at this
            simp at this
          have HMO := Lib.hid hMO
          have HM0 := Lib.hid hM0
          have hTOl : TO.length ≤ 400000 := by
            have h1 := bits_out_len B (L7 ++ [p0, p1, p2, p3])
            rw [← HB2.out] at h1
            rw [HTO.out, List.length_append]
            have : (headZ bg).length ≤ 2 := by cases bg <;> decide
            omega
          have hput : putL wd ht lf at_ bg B [p0, p1, p2, p3] = (L6 ++ chunkL [73, 68, 65, 84] (TO ++ MO)) ++ chunkL [73, 69, 78, 68] [] := by
            have ht : toldL lf at_ bg B [p0, p1, p2, p3] = TO ++ MO := by
              unfold toldL
              rw [← HIN.out, ← HTO.out, if_pos hlf1, HMO.out]; rfl
            unfold putL
            rw [ht, if_neg (show ¬ TO ++ MO = [] from fun h => hM0 (List.append_eq_nil_iff.1 h).2), if_pos hlf1, HL6.out, HN.out]
          have HPUT := Lib.hid hput
          have hL6l : L6.length ≤ 100 := by
            rcases HQ6.out with ⟨-, h⟩ | ⟨-, h⟩ <;> rw [h]
            · simp [headL, chunkL, fourL]
            · simp
          clear hlf1 h0 hel hMO hM0 hput
          go_wp2_with fail
          refine HEZ.out.mono ?_
          rintro e w10 ⟨ym, rfl, hom, hkm⟩
          rw [← HMO.out] at hom
          have hgm : ¬ (g = gz ∨ s1.own g) := fun h => h.elim hgz hgs
          have HRA := Lib.hid ((hkm.block g (lt_of_heap HR10.out) hgm).trans HR10.out)
          have hlow6 : ∀ k, u6.ownBlock = some k → ¬ (k = gz ∨ s1.own k) := fun k e h => by
            have h2 := (HL6b.out k e)
            have h3 := HX2.out.size
            rcases h with h | h
            · omega
            · rcases HF5.out k h with h1 | h1
              · have := (hsl k h1).2; omega
              · have := HN3.out; omega
          have HO6A := Lib.hid (HO69.out.frame hkm hlow6)
          have HO9A := Lib.hid (HO9.out.frame hkm (fun k e h => by
            rcases h with h | h
            · have := (HO9.out.lt k e).1; omega
            · exact HD5.out k e h))
          have HOM := Lib.hid hom
          have HKA := Lib.hid (HKK.out.trans hkm (fun k h => by
            rcases h with h | h
            · exact .inl (.inr (.inl h))
            · exact (HF5.out k h).elim (fun h => .inl (.inr (.inr h))) (fun h => .inr (by omega))))
          have hsz9 : W4.heap.size ≤ w10.heap.size := Nat.le_trans (Nat.le_trans HK5.out.size hk9.size) hkm.size
          have hya := fun k (e : (Value.slice ay ny cy).ownBlock = some k) => (HO9.out.lt k e)
          have HYA := Lib.hid hya
          have hmb := fun k (e : ym.ownBlock = some k) => (hom.lt k e)
          have HMB := Lib.hid hmb
          clear hom hkm hlow6 hya hmb y3 y6
          go_upto_region 18 with (fail)
          obtain ⟨am, nm, cm, rfl⟩ := HOM.out.slice_
          have HLa := Lib.hid (show (TO.length + MO.length) * 1 ≤ 140737488355328 by omega)
          have HLb := Lib.hid (show TO.length + MO.length ≤ 140737488355328 by omega)
          go_upto_region 19 with (at_builtin; refine wpList_append_nums_at rfl (.tmp 111) (.tmp 112) 33 5 rfl .u8 256 1 W4.heap.size u8s (.slice ay ny cy) TO rfl HO9A.out (.slice am nm cm) MO rfl HOM.out.nums HLa.out HLb.out hsz9 ?_; intro vt w11 hot hgt hft; have HOT := Lib.hid hot; have HGT := Lib.hid hgt; clear hot hgt hft)
          have hkt : Keeps (fun k => (Value.slice ay ny cy).ownBlock = some k) w10 w11 := (Keeps.refl _ w10).grown HGT.out (fun k hk => .inl hk)
          have hygt : ∀ k, (Value.slice ay ny cy).ownBlock = some k → W4.heap.size ≤ k := fun k e => (HYA.out k e).1
          have HRB := Lib.hid ((hkt.block g (lt_of_heap HRA.out) (fun e => by have := hygt g e; omega)).trans HRA.out)
          have HO6B := Lib.hid (HO6A.out.frame hkt (fun k e h => by have h1 := hygt k h; have h2 := (HL6b.out k e).2; have := HN3.out; omega))
          have HKB := Lib.hid (HKA.out.trans hkt (fun k h => .inr (by have := hygt k h; omega)))
          have y4 : w11.cell? ⟨g, 4, none⟩ = some v' := cell_of_row _ _ 4 _ _ _ HRB.out
          have y6 : w11.cell? ⟨g, 6, none⟩ = some (.pointer (some ⟨gz, 0, none⟩)) := cell_of_row _ _ 6 _ _ _ HRB.out
          have f4 := frozen_of_row _ _ 4 _ _ HRB.out
          have f6 := frozen_of_row _ _ 6 _ _ HRB.out
          have hk11 := hkt.size
          clear hkt HRA HO6A HKA HOM HO9A HGT
          go_upto_region 20 with (fail)
          have hks := ((Keeps.refl (fun k => k = g) w11).setCell g 4 (.slice none 0 0) (.inl rfl)).setCell g 6 (.pointer none) (.inl rfl)
          have hrs := heap_setCell_same (w11.setCell ⟨g, 4, none⟩ (.slice none 0 0)) g 6 _ _ (.pointer none) (heap_setCell_same w11 g 4 _ _ (.slice none 0 0) HRB.out)
          generalize (w11.setCell ⟨g, 4, none⟩ (.slice none 0 0)).setCell ⟨g, 6, none⟩ (.pointer none) = w12 at *
          have HRC := Lib.hid hrs
          have HO6C := Lib.hid (HO6B.out.frame hks (fun k e h => by have := (HL6b.out k e).1; have := HX2.out.size; omega))
          have HKC := Lib.hid (HKB.out.trans hks (fun k h => .inl (.inl h)))
          have HOTC := Lib.hid (HOT.out.frame hks (fun k e h => by have := (HOT.out.lt k e).1; omega))
          have hk12 := hks.size
          clear hks hrs y4 y6 f4 f6 HRB HO6B HKB
          obtain ⟨at2, nt, ct, rfl⟩ := HOTC.out.slice_
          have hnt := (nums_len HOTC.out.nums).1
          have hnt0 : 0 < nt := by
            rw [hnt, List.length_append]
            have : 0 < MO.length := List.length_pos_iff.2 HM0.out
            omega
          have hnt1 : ¬ nt = 0 := by omega
          have d2 : decide ((0 : Int) < (nt : Int)) = true := decide_eq_true (by omega)
          have HCK := Lib.hid (chunk_any w.heap.size w12 u6 L6 { data := #[73, 68, 65, 84] } (.slice at2 nt ct) (TO ++ MO) (.inl (HO6C.out.mono HX2.out.size)) rfl HOTC.out.nums (fun k e h => by
              have h6 := (HL6b.out k h).2
              have h9 := (HOTC.out.lt k e).1
              have := HN3.out
              omega) (fun k e => (HOTC.out.lt k e).2) (by omega) (by rw [List.length_append]; omega) HKC.out.size)
          clear hnt
          go_wp2_with fail
          refine HCK.out.mono ?_
          rintro e w13 ⟨yo, rfl, hoo, hko, -⟩
          have hgu : ¬ u6.ownBlock = some g := fun e => by have := (HL6b.out g e).1; have := HX2.out.size; omega
          have HOO := Lib.hid hoo
          have HRX := Lib.hid ((hko.block g (lt_of_heap HRC.out) hgu).trans HRC.out)
          have HKO := Lib.hid (HKC.out.trans hko (fun k e => .inr (by have := (HL6b.out k e).1; have := HX2.out.size; omega)))
          have y10 : w13.cell? ⟨g, 3, none⟩ = some (.int .i64 (l1 : Int)) := cell_of_row _ _ 3 _ _ _ HRX.out
          have hckl : (L6 ++ chunkL [73, 68, 65, 84] (TO ++ MO)).length ≤ 1000000 := by
            rw [List.length_append]
            unfold chunkL
            simp only [List.length_append, fourL_len, List.length_cons, List.length_nil]
            omega
          have HCE := Lib.hid (chunk_any w.heap.size w13 yo (L6 ++ chunkL [73, 68, 65, 84] (TO ++ MO)) { data := #[73, 69, 78, 68] } (.slice none 0 0) [] (.inl hoo) rfl (Own.nil .u8 256 5 w.heap.size w13).nums (fun k e => by cases e) (fun k e => by cases e) hckl (by simp) HKO.out.size)
          clear hoo hko hckl
          go_wp2_with fail
          refine HCE.out.mono ?_
          rintro e w14 ⟨yf, rfl, hof, hkf, -⟩
          have hyg : ∀ k, yo.ownBlock = some k → w.heap.size ≤ k := fun k e => (HOO.out.lt k e).1
          have hrf := (hkf.block g (lt_of_heap HRX.out) (fun e => by have := hyg g e; omega)).trans HRX.out
          rw [H0.out] at hrf
          have HRF := Lib.hid hrf
          have HOF := Lib.hid hof
          have HKF := Lib.hid (HKO.out.trans hkf (fun k e => .inr (hyg k e)))
          clear hrf hof hkf
          go_wp2_with fail
          go_ret2
          exact ⟨yf, rfl, by rw [HPUT.out]; exact HOF.out, HKF.out, fun h => absurd HLF1.out h, fun _ => ⟨_, _, _, _, _, HRF.out⟩⟩
        · have d1 : ((l1 : Int) == 0) = false := by simp; omega
          by_cases hn0 : ny = 0
          · have d2 : decide ((0 : Int) < (ny : Int)) = false := decide_eq_false (by omega)
            have hlf1 : ¬ lf = 1 := by have := HLF.out; omega
            have hto : TO = [] := List.eq_nil_of_length_eq_zero (by rw [← HNY.out]; exact hn0)
            have hput : putL wd ht lf at_ bg B [p0, p1, p2, p3] = L6 := by
              have ht : toldL lf at_ bg B [p0, p1, p2, p3] = [] := by
                unfold toldL
                rw [← HIN.out, ← HTO.out, if_neg hlf1, List.append_nil]; exact hto
              unfold putL
              rw [if_pos ht, if_neg hlf1, List.append_nil, List.append_nil, HL6.out, HN.out]
            have HPUT := Lib.hid hput
            have HLF1 := Lib.hid hlf1
            have hl1 : lf - 1 = l1 := by have := HLF.out; omega
            have HL1b := Lib.hid hl1
            clear hput hlf1 hto hl1
            go_wp2_with fail
            go_ret2
            exact ⟨u6, rfl, by rw [HPUT.out]; exact HO69.out.mono HX2.out.size, HKK.out, fun _ => ⟨v', s1, by rw [HL1b.out]; exact HEN.out, HFR.out, HVB.out⟩, fun h => absurd h HLF1.out⟩
          · have d2 : decide ((0 : Int) < (ny : Int)) = true := decide_eq_true (by omega)
            have hlf1 : ¬ lf = 1 := by have := HLF.out; omega
            have hto : ¬ TO = [] := fun h => hn0 (by rw [HNY.out, h]; rfl)
            have hput : putL wd ht lf at_ bg B [p0, p1, p2, p3] = L6 ++ chunkL [73, 68, 65, 84] TO := by
              have ht : toldL lf at_ bg B [p0, p1, p2, p3] = TO := by
                unfold toldL
                rw [← HIN.out, ← HTO.out, if_neg hlf1, List.append_nil]
              unfold putL
              rw [ht, if_neg hto, if_neg hlf1, List.append_nil, HL6.out, HN.out]
            have HPUT := Lib.hid hput
            have HLF1 := Lib.hid hlf1
            have hl1 : lf - 1 = l1 := by have := HLF.out; omega
            have HL1b := Lib.hid hl1
            have hL6l : L6.length ≤ 100 := by
              rcases HQ6.out with ⟨-, h⟩ | ⟨-, h⟩ <;> rw [h]
              · simp [headL, chunkL, fourL]
              · simp
            have hTOl : TO.length ≤ 400000 := by
              have h1 := bits_out_len B (L7 ++ [p0, p1, p2, p3])
              rw [← HB2.out] at h1
              rw [HTO.out, List.length_append]
              have : (headZ bg).length ≤ 2 := by cases bg <;> decide
              omega
            have hck := chunk_any w.heap.size w9 u6 L6 { data := #[73, 68, 65, 84] } (.slice ay ny cy) TO (.inl (HO69.out.mono HX2.out.size)) rfl HO9.out.nums (fun k e h => by
              have h6 := (HL6b.out k h).2
              have h9 := (HO9.out.lt k e).1
              have := HN3.out
              omega) (fun k e => (HO9.out.lt k e).2) (by omega) (by omega) HKK.out.size
            have HCK := Lib.hid hck
            clear hput hlf1 hto hl1 hL6l hTOl hck
            go_wp2_with fail
            refine HCK.out.mono ?_
            rintro e w10 ⟨yo, rfl, hoo, hko, -⟩
            have hgu : ¬ u6.ownBlock = some g := fun e => by have := (HL6b.out g e).1; have := HX2.out.size; omega
            have HOO := Lib.hid hoo
            have HRX := Lib.hid ((hko.block g (lt_of_heap HR10.out) hgu).trans HR10.out)
            have HKO := Lib.hid hko
            have y10 : w10.cell? ⟨g, 3, none⟩ = some (.int .i64 (l1 : Int)) := cell_of_row _ _ 3 _ _ _ HRX.out
            clear hoo hko
            go_wp2_with fail
            go_ret2
            have hu6 : ∀ k, u6.ownBlock = some k → w.heap.size ≤ k := fun k e => by have := (HL6b.out k e).1; have := HX2.out.size; omega
            have hen := HEN.out
            have hen10 : En base w10 g wd ht l1 v' (if at_ + 1 = r0 then rs else r0 :: rs) (if at_ + 1 = r0 then 0 else at_ + 1) gz s1 true (B ++ inL at_ [p0, p1, p2, p3]) := by
              refine ⟨?_, hen.rows.frame HKO.out (fun k e h => by have h1 := hvb9 k e; have h2 := hu6 k h; omega), hen.zs.frame HKO.out (fun k hk h => by
                have h2 := (HL6b.out k h)
                have h3 := HX2.out.size
                rcases hk with rfl | hk
                · omega
                · rcases HF5.out k hk with h1 | h1
                  · have := (hsl k h1).2; omega
                  · have := HN3.out; omega), hen.low, hen.ng, hen.ns, hen.rw⟩
              exact (HKO.out.block g (lt_of_heap hen.row) hgu).trans hen.row
            exact ⟨yo, rfl, by rw [HPUT.out]; exact HOO.out, HKK.out.trans HKO.out (fun k e => .inr (hu6 k e)), fun _ => ⟨v', s1, by rw [HL1b.out]; exact hen10, HFR.out, HVB.out⟩, fun h => absurd h HLF1.out⟩
end Go.Proofs.Ytighlefajekloaa.PngH
